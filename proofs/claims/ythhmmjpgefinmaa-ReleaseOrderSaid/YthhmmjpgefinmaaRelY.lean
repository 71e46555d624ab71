/- ReleaseOrder: the walk -/
import Derived.Test.YthhmmjpgefinmaaRelL
import Derived.Test.YthhmmjpgefinmaaBufL
set_option maxRecDepth 10000
namespace Go.Proofs.Ythhmmjpgefinmaa
set_option linter.unusedVariables false
set_option linter.unusedSimpArgs false
open Go.RowKit Go.Shelf
attribute [local go_sem] Oper.semAt_some

theorem slide_any (l : List Slt) (v : Value) (q : Int) (w : World) (h : RdrS w v l) (hn : l.length ≤ 4611686018427387904) : Calls Try.prog 21 #[v, .int .i64 q] w fun e w' => e = .returned (.int .i64 (slideV q l)) ∧ w = w' := by
  obtain ⟨p, c, rfl⟩ := h.shape
  obtain ⟨m, hm⟩ : ∃ m, m = l.length := ⟨_, rfl⟩
  have HR : Hid (Rdr w 2 (.slice p m c) m (icells l)) := Lib.hid (by rw [hm]; exact h)
  rw [← hm] at hn ⊢
  have HM := Lib.hid hm
  obtain ⟨SV, hsv⟩ : ∃ SV, SV = slideV q l := ⟨_, rfl⟩
  rw [← hsv]
  have HSV := Lib.hid hsv
  clear hm h hsv
  go_enter Try.func21, Try.ntmps21
  go_wp2_with fail
  go_loop [5] (fun i => ∃ (k : Nat), k ≤ m ∧ i = .int .i64 k ∧ Hid (SV = slideV q (l.drop k))) (fun i => m - (intOf i).toNat)
  case atStart => exact ⟨0, by omega, rfl, HSV⟩
  case round =>
    obtain ⟨k, hk, rfl, HE⟩ := hrel
    by_cases hlt : k < m
    · have hkI : (k : Int) < (m : Int) := by omega
      obtain ⟨b, o, q2, s, hx, rfl, c0, c1⟩ := RdrS.at HR.out HM.out hlt
      by_cases hq : q2 = q
      · have HF : Hid (SV = s) := Lib.hid (by rw [HE.out, drop_get hx]; show (if q2 = q then s else _) = s; rw [if_pos hq])
        clear hx
        go_wp2_with fail
        go_ret
        exact ⟨by rw [HF.out]; rfl, rfl⟩
      · have HN : Hid (SV = slideV q (l.drop (k + 1))) := Lib.hid (by rw [HE.out, drop_get hx]; show (if q2 = q then s else _) = _; rw [if_neg hq])
        clear hx
        go_wp2_with fail
        go_round
        case rel => exact ⟨k + 1, by omega, by go_num, HN⟩
        case measure => simp [intOf]; omega
    · have HT : Hid (SV = 0) := Lib.hid (by rw [HE.out, List.drop_of_length_le (by have := HM.out; omega)]; rfl)
      go_wp2_with fail
      go_ret
      exact ⟨by rw [HT.out]; rfl, rfl⟩
theorem sameE_yes {A B : Edg} (h : outE A = outE B) : sameE A B = true := by
  have h1 : A.f = B.f := congrArg (fun o : Out => o.1) h
  have h2 : A.t = B.t := congrArg (fun o : Out => o.2.1) h
  have h3 : A.l = B.l := congrArg (fun o : Out => o.2.2.1) h
  have h4 : A.tm = B.tm := congrArg (fun o : Out => o.2.2.2.1) h
  have h5 : A.ps = B.ps := congrArg (fun o : Out => o.2.2.2.2) h
  unfold sameE
  simp [h1, h2, h3, h4, h5]
set_option maxHeartbeats 16000000 in
theorem order_any23 (L : List Edg) (a b : Int) (l : List Slt) (v0 v3 : Value) (w : World) (h0 : RdrE w v0 L) (ht : ∀ E ∈ L, InR E.tm) (hn : L.length ≤ 4398046511104) (h3 : RdrS w v3 l) (hnl : l.length ≤ 8796093022208) :
    Calls Try.prog 5 #[v0, .int .i64 a, .int .i64 b, v3] w fun e w' => e = .returned (.bool true) ∧ G w w' := by
  obtain ⟨p3, c3, hv3⟩ := h3.shape
  obtain ⟨p0, c0, hv0⟩ := h0.shape
  obtain ⟨m, hm⟩ : ∃ m, m = l.length := ⟨_, rfl⟩
  obtain ⟨mL, hmL⟩ : ∃ mL, mL = L.length := ⟨_, rfl⟩
  rw [← hm] at hv3
  rw [← hmL] at hv0
  subst hv3
  subst hv0
  have H0 := Lib.hid h0
  have H3 := Lib.hid h3
  have HT := Lib.hid ht
  have HM := Lib.hid hm
  have HML := Lib.hid hmL
  have hmn : m ≤ 8796093022208 := by omega
  obtain ⟨nn, e, hcv⟩ : ∃ n e, cntV a b l = (n, e) := ⟨_, _, rfl⟩
  have hct : cntT a b l = .tuple #[.int .i64 nn, .int .i64 e] := by unfold cntT; rw [hcv]
  have HCT : Hid (∀ X, G w X → Calls Try.prog 7 #[.int .i64 a, .int .i64 b, .slice p3 m c3] X fun e' w' => e' = .returned (.tuple #[.int .i64 nn, .int .i64 e]) ∧ G X w') := Lib.hid (fun X hX => by
    have := rcount_any a b l _ X (h3.g hX) (by omega)
    rw [hct] at this; exact this)
  have HSZ := Lib.hid (fun (X : World) (hX : G w X) => lsize_any L _ X (h0.g hX) hn)
  have HCV := Lib.hid hcv
  clear h0 h3 ht hm hmL hct hcv hn hnl
  go_enter Try.func5, Try.ntmps5
  go_wp2_with fail
  refine (awake_any w).mono ?_
  rintro e0 w1 ⟨rfl, hg1⟩
  go_wp2_with fail
  refine (HSZ.out w1 hg1).mono ?_
  rintro e0 w1' ⟨sz, rfl, hszb, hsz, rfl⟩
  by_cases hsm : sz + m ≤ 120
  · have hsmI : ¬ (120 : Int) < (sz : Int) + (m : Int) := by omega
    have hPU : Puts L := ⟨by have := (hsz (by omega)).1; omega, fun E hE => ⟨HT.out E hE, by have := (hsz (by omega)).2 E hE; omega⟩⟩
    have hL120 : L.length ≤ 120 := by have := (hsz (by omega)).1; omega
    have HPU := Lib.hid hPU
    have HL120 := Lib.hid hL120
    clear hsz hPU hL120 HSZ HT
    go_wp2_with fail
    refine (HCT.out w1 hg1).mono ?_
    rintro e0 w2 ⟨rfl, hg2⟩
    have hgw2 := hg1.trans hg2
    clear HCT
    go_wp2_with fail
    refine (filled_any L _ w2 (H0.out.g hgw2) HPU.out).mono ?_
    rintro e0 w3 ⟨B, S, P, rfl, hbuf, hnew, hg3⟩
    obtain ⟨s, hs⟩ : ∃ s, s = fillO L := ⟨_, rfl⟩
    rw [← hs] at hbuf
    have hgw3 := hgw2.trans hg3
    have HSO : Hid (OStr s ∧ s.length ≤ 120 ∧ (∀ o ∈ s, o.2.2.2.2.length ≤ 1000000)) := Lib.hid (by
      rw [hs]
      exact ⟨fillO_str L, by have := fillO_len L; have := HL120.out; omega, HPU.out.each⟩)
    clear hs
    obtain ⟨bp, hbp⟩ := hbuf
    go_wp2_with fail
    refine (ball_any S P B s bp w3 hbp (by have := HSO.out.2.1; omega) HSO.out.2.2).mono ?_
    rintro e0 w4 ⟨u4, Lh, rfl, hown4, hLh, hE4, hg4⟩
    have hgw4 := hgw3.trans hg4
    have HB4 : Hid (BufNow S P B s w4 ∧ (∀ k, S k → w2.heap.size ≤ k) ∧ (∀ k, S k ∨ P k → k < w3.heap.size)) := Lib.hid ⟨⟨bp, hbp.g hg4⟩, fun k hk => hnew k (.inl hk), hbp.lt⟩
    obtain ⟨Nh, hNh⟩ : ∃ Nh, Nh = Lh.length := ⟨_, rfl⟩
    rw [← hNh] at hown4
    obtain ⟨ph, ch, rfl⟩ := ownsRow_shape hown4
    have hz12 := hgw2.size
    have HNH : Hid (Nh = Lh.length ∧ Nh = s.length ∧ Lh.map outE = s) := Lib.hid ⟨hNh, by rw [← hLh, List.length_map]; exact hNh, hLh⟩
    have hNh120 : Nh ≤ 120 := by have := HNH.out.2.1; have := HSO.out.2.1; omega
    have HH4 := Lib.hid (And.intro hown4 hE4)
    clear hbp hnew hown4 hLh hE4 hNh
    by_cases hgo : e = 0 ∧ 300 < nn
    · obtain ⟨rfl, h300⟩ := hgo
      go_wp2_with fail
      go_ret
      exact ⟨rfl, hgw4⟩
    · have HTD := Lib.hid (told_any S P B s a b l _ 1000 w4 HB4.out.1 (H3.out.g hgw4) (by have := HM.out; omega) (by have := HSO.out.2.1; omega) HSO.out.2.2 (fun h0 g hg hs => by
        have h1 := H3.out.lt h0 (by omega) g hg
        have h2 := HB4.out.2.1 g hs
        omega) (by omega))
      have HG5 : Hid (∀ X, Fr S w4 X → G w X) := Lib.hid (fun X hX => g_of_fr hgw4 hX (fun k hk => by have := HB4.out.2.1 k hk; omega))
      have HF5 : Hid (∀ X, Fr S w4 X → X.ownsRow w3.heap.size 51 5 (.slice ph Nh ch) Nh (ecs Lh) ∧ ∀ E ∈ Lh, OwnE X w3.heap.size E) := Lib.hid (fun X hX => ⟨hX.ownsRow HH4.out.1 (fun g hg hs => by have h1 := (HH4.out.1.lt g hg).1; have h2 := HB4.out.2.2 g (.inl hs); omega), fun E hE => (HH4.out.2 E hE).fr hX (fun g hg hs => by have h1 := ((HH4.out.2 E hE).own.lt g hg).1; have h2 := HB4.out.2.2 g (.inl hs); omega)⟩)
      clear HH4 hg1 hg2 hg3 hg4 hgw2 hgw3 hgw4 hz12
      by_cases he : e = 0
      · subst he
        have hn3 : ¬ (300 : Int) < nn := fun h => hgo ⟨rfl, h⟩
        obtain ⟨hok, hnl, hn4⟩ := cntV_ok HCV.out
        have hrl : rightL l = true := by unfold okL at hok; simp only [Bool.and_eq_true] at hok; exact hok.1
        have hmb : mkB b = true := by unfold okL at hok; simp only [Bool.and_eq_true] at hok; exact hok.2.2
        have hep : evP a b l s = evL s (closesD a b l) b := by unfold evP; rw [HCV.out, if_pos rfl]
        obtain ⟨N, hN⟩ : ∃ N : Nat, N = (closesD a b l).length := ⟨_, rfl⟩
        obtain rfl : nn = (N : Int) := by rw [hN]; exact hnl
        have hN3 : N ≤ 300 := by omega
        obtain ⟨evs, hevs⟩ : ∃ evs, evs = evL s (closesD a b l) b := ⟨_, rfl⟩
        have HFA : Hid (EvFacts a b l s evs) := Lib.hid (by rw [hevs]; exact evFacts hrl HSO.out.1)
        have HNN : Hid (evs.countP (fun x : PEv => x.1) = N) := Lib.hid (by rw [HFA.out.nc, hN])
        have hel : evs.length ≤ 420 := by
          rw [hevs]
          have := evL_len (closesD a b l) s b
          have := HSO.out.2.1
          omega
        have HTK : Hid ((evP a b l s).take 1000 = evs) := Lib.hid (by rw [hep, ← hevs, List.take_of_length_le (by omega)])
        have HMB := Lib.hid (mk_iff.1 hmb)
        have hbb1 := HMB.out.1
        have hbb2 := HMB.out.2
        clear hok hnl hn4 hrl hmb hep hN hevs hgo
        go_wp2_with fail
        refine HTD.out.mono ?_
        rintro e0 w5 ⟨u5, X, rfl, hown5, hX, hE5, -, hb5, hf5⟩
        rw [HTK.out] at hX hb5
        obtain ⟨hh5, hhE5⟩ := HF5.out w5 hf5
        have HGW5 := Lib.hid (HG5.out w5 hf5)
        obtain ⟨Nx, hNx⟩ : ∃ Nx, Nx = X.length := ⟨_, rfl⟩
        rw [← hNx] at hown5
        obtain ⟨px, cx, rfl⟩ := ownsRow_shape hown5
        have HNX : Hid (Nx = X.length ∧ X.map outV = evs ∧ Nx = evs.length) := Lib.hid ⟨hNx, hX, by rw [← hX, List.length_map]; exact hNx⟩
        have hNx420 : Nx ≤ 420 := by have := HNX.out.2.2; omega
        have HX5 : Hid (w5.ownsRow w4.heap.size 53 8 (.slice px Nx cx) Nx (vcs X) ∧ (∀ x ∈ X, OwnE w5 w4.heap.size x.e.1) ∧ w5.ownsRow w3.heap.size 51 5 (.slice ph Nh ch) Nh (ecs Lh) ∧ (∀ E ∈ Lh, OwnE w5 w3.heap.size E) ∧ BufNow S P B (s.drop (nE evs)) w5) := Lib.hid ⟨hown5, hE5, hh5, hhE5, hb5⟩
        clear hown5 hX hE5 hb5 hf5 hh5 hhE5 hNx HTD HG5 HF5 HTK
        go_wp2_with fail
        go_loopw [14, 15, 16] (fun kv mv iv wr => ∃ i kk mm : Nat, kv = .int .i64 kk ∧ mv = .int .i64 mm ∧ iv = .int .i64 i ∧ i ≤ Nx ∧ Hid (kk = nE (evs.take i)) ∧ mm + kk = i ∧ Hid (G w5 wr)) (fun _ _ iv _ => Nx - (intOf iv).toNat)
        case atStart => exact ⟨0, 0, 0, rfl, rfl, rfl, by omega, Lib.hid rfl, by omega, Lib.hid (G.refl _)⟩
        case round =>
          obtain ⟨i, kk, mm, rfl, rfl, rfl, hi, HKK, hsum, HG⟩ := hrel
          by_cases hlt : i < Nx
          · have hiI : (i : Int) < (Nx : Int) := by omega
            have hi0 : (0 : Int) ≤ (i : Int) := by omega
            obtain ⟨x, hx⟩ : ∃ x, X[i]? = some x := ⟨X[i]'(by have := HNX.out.1; omega), List.getElem?_eq_getElem _⟩
            have hrx : Rdr wr 8 (.slice px Nx cx) Nx (vcs X) := rdr_of_owns (HG.out.ownsRow HX5.out.1)
            obtain ⟨bx, ox, rfl, c0, c1, c2, c3', c4, c5, c6, c7⟩ := cellsAt8 hrx HNX.out.1 hx
            have hev : evs[i]? = some (outV x) := by rw [← HNX.out.2.1, List.getElem?_map, hx]; rfl
            have hxE := (HX5.out.2.1 x (List.mem_of_getElem? hx)).g HG.out
            have HXE := Lib.hid hxE.at
            have HEV := Lib.hid hev
            have HKN := Lib.hid (nE_take hev)
            have HPV : Hid (∀ j, i = j + 1 → ∃ y, X[j]? = some y ∧ Rv (outV y) (outV x)) := Lib.hid (fun j hj => by
              obtain ⟨y, hy⟩ : ∃ y, X[j]? = some y := ⟨X[j]'(by have := HNX.out.1; omega), List.getElem?_eq_getElem _⟩
              refine ⟨y, hy, HFA.out.next (i := j) ?_ (by rw [← hj]; exact hev)⟩
              rw [← HNX.out.2.1, List.getElem?_map, hy]; rfl)
            clear hx hev hxE hrx
            obtain ⟨xcl, ⟨⟨xf, xt, xl, xm, xv, xps⟩, pv, nv, cv, hv⟩, xq, xa⟩ := x
            simp only at hv
            subst hv
            simp only at c0 c1 c2 c3' c4 c5 c6 c7
            cases xcl
            · go_upto_region 18 with fail
              have hgy : G wr (wr.alloc (.cells #[.bool false, .string xf, .string xt, .string xl, .int .i64 xm, .slice pv nv cv, .int .i64 xq, .int .i64 xa] 53)) := (G.refl wr).alloc _
              have k0 := cell_alloc_at wr [.bool false, .string xf, .string xt, .string xl, .int .i64 xm, .slice pv nv cv, .int .i64 xq, .int .i64 xa] 53 (0, 0) 0 _ rfl
              have k1 := cell_alloc_at wr [.bool false, .string xf, .string xt, .string xl, .int .i64 xm, .slice pv nv cv, .int .i64 xq, .int .i64 xa] 53 (0, 0) 1 _ rfl
              have k2 := cell_alloc_at wr [.bool false, .string xf, .string xt, .string xl, .int .i64 xm, .slice pv nv cv, .int .i64 xq, .int .i64 xa] 53 (0, 0) 2 _ rfl
              have k3 := cell_alloc_at wr [.bool false, .string xf, .string xt, .string xl, .int .i64 xm, .slice pv nv cv, .int .i64 xq, .int .i64 xa] 53 (0, 0) 3 _ rfl
              have k4 := cell_alloc_at wr [.bool false, .string xf, .string xt, .string xl, .int .i64 xm, .slice pv nv cv, .int .i64 xq, .int .i64 xa] 53 (0, 0) 4 _ rfl
              have k5 := cell_alloc_at wr [.bool false, .string xf, .string xt, .string xl, .int .i64 xm, .slice pv nv cv, .int .i64 xq, .int .i64 xa] 53 (0, 0) 5 _ rfl
              have k6 := cell_alloc_at wr [.bool false, .string xf, .string xt, .string xl, .int .i64 xm, .slice pv nv cv, .int .i64 xq, .int .i64 xa] 53 (0, 0) 6 _ rfl
              have k7 := cell_alloc_at wr [.bool false, .string xf, .string xt, .string xl, .int .i64 xm, .slice pv nv cv, .int .i64 xq, .int .i64 xa] 53 (0, 0) 7 _ rfl
              simp only [Nat.zero_add] at k0 k1 k2 k3 k4 k5 k6 k7
              have HGY := Lib.hid (HG.out.trans hgy)
              obtain ⟨yb, hyb⟩ : ∃ yb, yb = wr.heap.size := ⟨_, rfl⟩
              rw [← hyb] at k0 k1 k2 k3 k4 k5 k6 k7 ⊢
              replace HXE := Lib.hid (HXE.out.g hgy)
              generalize (wr.alloc (.cells #[.bool false, .string xf, .string xt, .string xl, .int .i64 xm, .slice pv nv cv, .int .i64 xq, .int .i64 xa] 53)) = wy at k0 k1 k2 k3 k4 k5 k6 k7 HGY HXE ⊢
              clear hyb hgy c0 c1 c2 c3' c4 c5 c6 c7
              by_cases hi1 : i = 0
              · have h4n : ¬ 0 < i := by omega
                have h4i : ¬ (0 : Int) < (i : Int) := by omega
                have h4d : decide ((0 : Int) < (i : Int)) = false := by simpa using hi1
                clear hi1 HPV
                as_aux_lemma =>
                  refine region_hl (fun w' => G wy w') 99 60 (by kernel_rfl) rfl ?_
                  simp only [List.replicate_succ, List.replicate_zero]
                  have hs0 : (fun w' : World => G wy w') wy.drew := (G.refl wy).drew
                  refine hl_take_np 0 (by kernel_rfl) (by kernel_rfl) rfl (by kernel_rfl) hs0 (v := ?_) ?_ ?_
                  rotate_left
                  · (rintro x hx; have q0 := hx.cell k0; have q6 := hx.cell k6; have q7 := hx.cell k7; clear hx; go_simp; try rfl)
                  simp only [Act.put, List.setIfInBounds_toArray, List.set_cons_zero, List.set_cons_succ]
                  refine hl_take_np 1 (by kernel_rfl) (by kernel_rfl) rfl (by kernel_rfl) hs0 (v := ?_) ?_ ?_
                  rotate_left
                  · (rintro x hx; have q0 := hx.cell k0; have q6 := hx.cell k6; have q7 := hx.cell k7; clear hx; go_simp; try rfl)
                  simp only [Act.put, List.setIfInBounds_toArray, List.set_cons_zero, List.set_cons_succ]
                  refine hl_take_np 2 (by kernel_rfl) (by kernel_rfl) rfl (by kernel_rfl) hs0 (v := ?_) ?_ ?_
                  rotate_left
                  · (rintro x hx; have q0 := hx.cell k0; have q6 := hx.cell k6; have q7 := hx.cell k7; clear hx; go_simp; try rfl)
                  simp only [Act.put, List.setIfInBounds_toArray, List.set_cons_zero, List.set_cons_succ]
                  refine hl_skip_np 3 (by kernel_rfl) (by kernel_rfl) rfl (by kernel_rfl) hs0 ?_
                  simp only [Act.put, List.setIfInBounds_toArray, List.set_cons_zero, List.set_cons_succ]
                  refine hl_skip_np 4 (by kernel_rfl) (by kernel_rfl) rfl (by kernel_rfl) hs0 ?_
                  simp only [Act.put, List.setIfInBounds_toArray, List.set_cons_zero, List.set_cons_succ]
                  refine hl_skip_np 5 (by kernel_rfl) (by kernel_rfl) rfl (by kernel_rfl) hs0 ?_
                  simp only [Act.put, List.setIfInBounds_toArray, List.set_cons_zero, List.set_cons_succ]
                  refine hl_skip_np 6 (by kernel_rfl) (by kernel_rfl) rfl (by kernel_rfl) hs0 ?_
                  simp only [Act.put, List.setIfInBounds_toArray, List.set_cons_zero, List.set_cons_succ]
                  refine hl_skip_np 7 (by kernel_rfl) (by kernel_rfl) rfl (by kernel_rfl) hs0 ?_
                  simp only [Act.put, List.setIfInBounds_toArray, List.set_cons_zero, List.set_cons_succ]
                  refine hl_skip_np 8 (by kernel_rfl) (by kernel_rfl) rfl (by kernel_rfl) hs0 ?_
                  simp only [Act.put, List.setIfInBounds_toArray, List.set_cons_zero, List.set_cons_succ]
                  refine hl_skip_np 9 (by kernel_rfl) (by kernel_rfl) rfl (by kernel_rfl) hs0 ?_
                  simp only [Act.put, List.setIfInBounds_toArray, List.set_cons_zero, List.set_cons_succ]
                  refine hl_skip_np 10 (by kernel_rfl) (by kernel_rfl) rfl (by kernel_rfl) hs0 ?_
                  simp only [Act.put, List.setIfInBounds_toArray, List.set_cons_zero, List.set_cons_succ]
                  refine hl_skip_np 11 (by kernel_rfl) (by kernel_rfl) rfl (by kernel_rfl) hs0 ?_
                  simp only [Act.put, List.setIfInBounds_toArray, List.set_cons_zero, List.set_cons_succ]
                  refine hl_skip_np 12 (by kernel_rfl) (by kernel_rfl) rfl (by kernel_rfl) hs0 ?_
                  simp only [Act.put, List.setIfInBounds_toArray, List.set_cons_zero, List.set_cons_succ]
                  refine hl_skip_np 13 (by kernel_rfl) (by kernel_rfl) rfl (by kernel_rfl) hs0 ?_
                  simp only [Act.put, List.setIfInBounds_toArray, List.set_cons_zero, List.set_cons_succ]
                  refine hl_skip_np 14 (by kernel_rfl) (by kernel_rfl) rfl (by kernel_rfl) hs0 ?_
                  simp only [Act.put, List.setIfInBounds_toArray, List.set_cons_zero, List.set_cons_succ]
                  refine hl_skip_np 15 (by kernel_rfl) (by kernel_rfl) rfl (by kernel_rfl) hs0 ?_
                  simp only [Act.put, List.setIfInBounds_toArray, List.set_cons_zero, List.set_cons_succ]
                  refine hl_skip_np 16 (by kernel_rfl) (by kernel_rfl) rfl (by kernel_rfl) hs0 ?_
                  simp only [Act.put, List.setIfInBounds_toArray, List.set_cons_zero, List.set_cons_succ]
                  refine hl_skip_np 17 (by kernel_rfl) (by kernel_rfl) rfl (by kernel_rfl) hs0 ?_
                  simp only [Act.put, List.setIfInBounds_toArray, List.set_cons_zero, List.set_cons_succ]
                  refine hl_skip_np 18 (by kernel_rfl) (by kernel_rfl) rfl (by kernel_rfl) hs0 ?_
                  simp only [Act.put, List.setIfInBounds_toArray, List.set_cons_zero, List.set_cons_succ]
                  refine hl_skip_np 19 (by kernel_rfl) (by kernel_rfl) rfl (by kernel_rfl) hs0 ?_
                  simp only [Act.put, List.setIfInBounds_toArray, List.set_cons_zero, List.set_cons_succ]
                  refine hl_skip_np 20 (by kernel_rfl) (by kernel_rfl) rfl (by kernel_rfl) hs0 ?_
                  simp only [Act.put, List.setIfInBounds_toArray, List.set_cons_zero, List.set_cons_succ]
                  refine hl_skip_np 21 (by kernel_rfl) (by kernel_rfl) rfl (by kernel_rfl) hs0 ?_
                  simp only [Act.put, List.setIfInBounds_toArray, List.set_cons_zero, List.set_cons_succ]
                  refine hl_skip_np 22 (by kernel_rfl) (by kernel_rfl) rfl (by kernel_rfl) hs0 ?_
                  simp only [Act.put, List.setIfInBounds_toArray, List.set_cons_zero, List.set_cons_succ]
                  refine hl_skip_np 23 (by kernel_rfl) (by kernel_rfl) rfl (by kernel_rfl) hs0 ?_
                  simp only [Act.put, List.setIfInBounds_toArray, List.set_cons_zero, List.set_cons_succ]
                  refine hl_skip_np 24 (by kernel_rfl) (by kernel_rfl) rfl (by kernel_rfl) hs0 ?_
                  simp only [Act.put, List.setIfInBounds_toArray, List.set_cons_zero, List.set_cons_succ]
                  refine hl_skip_np 25 (by kernel_rfl) (by kernel_rfl) rfl (by kernel_rfl) hs0 ?_
                  simp only [Act.put, List.setIfInBounds_toArray, List.set_cons_zero, List.set_cons_succ]
                  refine hl_skip_np 26 (by kernel_rfl) (by kernel_rfl) rfl (by kernel_rfl) hs0 ?_
                  simp only [Act.put, List.setIfInBounds_toArray, List.set_cons_zero, List.set_cons_succ]
                  refine hl_skip_np 27 (by kernel_rfl) (by kernel_rfl) rfl (by kernel_rfl) hs0 ?_
                  simp only [Act.put, List.setIfInBounds_toArray, List.set_cons_zero, List.set_cons_succ]
                  refine hl_skip_np 28 (by kernel_rfl) (by kernel_rfl) rfl (by kernel_rfl) hs0 ?_
                  simp only [Act.put, List.setIfInBounds_toArray, List.set_cons_zero, List.set_cons_succ]
                  refine hl_skip_np 29 (by kernel_rfl) (by kernel_rfl) rfl (by kernel_rfl) hs0 ?_
                  simp only [Act.put, List.setIfInBounds_toArray, List.set_cons_zero, List.set_cons_succ]
                  refine hl_skip_np 30 (by kernel_rfl) (by kernel_rfl) rfl (by kernel_rfl) hs0 ?_
                  simp only [Act.put, List.setIfInBounds_toArray, List.set_cons_zero, List.set_cons_succ]
                  refine hl_skip_np 31 (by kernel_rfl) (by kernel_rfl) rfl (by kernel_rfl) hs0 ?_
                  simp only [Act.put, List.setIfInBounds_toArray, List.set_cons_zero, List.set_cons_succ]
                  refine hl_skip_np 32 (by kernel_rfl) (by kernel_rfl) rfl (by kernel_rfl) hs0 ?_
                  simp only [Act.put, List.setIfInBounds_toArray, List.set_cons_zero, List.set_cons_succ]
                  refine hl_skip_np 33 (by kernel_rfl) (by kernel_rfl) rfl (by kernel_rfl) hs0 ?_
                  simp only [Act.put, List.setIfInBounds_toArray, List.set_cons_zero, List.set_cons_succ]
                  refine hl_skip_np 34 (by kernel_rfl) (by kernel_rfl) rfl (by kernel_rfl) hs0 ?_
                  simp only [Act.put, List.setIfInBounds_toArray, List.set_cons_zero, List.set_cons_succ]
                  refine hl_skip_np 35 (by kernel_rfl) (by kernel_rfl) rfl (by kernel_rfl) hs0 ?_
                  simp only [Act.put, List.setIfInBounds_toArray, List.set_cons_zero, List.set_cons_succ]
                  refine hl_skip_np 36 (by kernel_rfl) (by kernel_rfl) rfl (by kernel_rfl) hs0 ?_
                  simp only [Act.put, List.setIfInBounds_toArray, List.set_cons_zero, List.set_cons_succ]
                  refine hl_skip_np 37 (by kernel_rfl) (by kernel_rfl) rfl (by kernel_rfl) hs0 ?_
                  simp only [Act.put, List.setIfInBounds_toArray, List.set_cons_zero, List.set_cons_succ]
                  refine hl_skip_np 38 (by kernel_rfl) (by kernel_rfl) rfl (by kernel_rfl) hs0 ?_
                  simp only [Act.put, List.setIfInBounds_toArray, List.set_cons_zero, List.set_cons_succ]
                  refine hl_skip_np 39 (by kernel_rfl) (by kernel_rfl) rfl (by kernel_rfl) hs0 ?_
                  simp only [Act.put, List.setIfInBounds_toArray, List.set_cons_zero, List.set_cons_succ]
                  refine hl_skip_np 40 (by kernel_rfl) (by kernel_rfl) rfl (by kernel_rfl) hs0 ?_
                  simp only [Act.put, List.setIfInBounds_toArray, List.set_cons_zero, List.set_cons_succ]
                  refine hl_skip_np 41 (by kernel_rfl) (by kernel_rfl) rfl (by kernel_rfl) hs0 ?_
                  simp only [Act.put, List.setIfInBounds_toArray, List.set_cons_zero, List.set_cons_succ]
                  refine hl_skip_np 42 (by kernel_rfl) (by kernel_rfl) rfl (by kernel_rfl) hs0 ?_
                  simp only [Act.put, List.setIfInBounds_toArray, List.set_cons_zero, List.set_cons_succ]
                  refine hl_skip_np 43 (by kernel_rfl) (by kernel_rfl) rfl (by kernel_rfl) hs0 ?_
                  simp only [Act.put, List.setIfInBounds_toArray, List.set_cons_zero, List.set_cons_succ]
                  refine hl_skip_np 44 (by kernel_rfl) (by kernel_rfl) rfl (by kernel_rfl) hs0 ?_
                  simp only [Act.put, List.setIfInBounds_toArray, List.set_cons_zero, List.set_cons_succ]
                  refine hl_skip_np 45 (by kernel_rfl) (by kernel_rfl) rfl (by kernel_rfl) hs0 ?_
                  simp only [Act.put, List.setIfInBounds_toArray, List.set_cons_zero, List.set_cons_succ]
                  refine hl_skip_np 46 (by kernel_rfl) (by kernel_rfl) rfl (by kernel_rfl) hs0 ?_
                  simp only [Act.put, List.setIfInBounds_toArray, List.set_cons_zero, List.set_cons_succ]
                  refine hl_skip_np 47 (by kernel_rfl) (by kernel_rfl) rfl (by kernel_rfl) hs0 ?_
                  simp only [Act.put, List.setIfInBounds_toArray, List.set_cons_zero, List.set_cons_succ]
                  refine hl_skip_np 48 (by kernel_rfl) (by kernel_rfl) rfl (by kernel_rfl) hs0 ?_
                  simp only [Act.put, List.setIfInBounds_toArray, List.set_cons_zero, List.set_cons_succ]
                  refine hl_skip_np 49 (by kernel_rfl) (by kernel_rfl) rfl (by kernel_rfl) hs0 ?_
                  simp only [Act.put, List.setIfInBounds_toArray, List.set_cons_zero, List.set_cons_succ]
                  refine hl_skip_np 50 (by kernel_rfl) (by kernel_rfl) rfl (by kernel_rfl) hs0 ?_
                  simp only [Act.put, List.setIfInBounds_toArray, List.set_cons_zero, List.set_cons_succ]
                  refine hl_skip_np 51 (by kernel_rfl) (by kernel_rfl) rfl (by kernel_rfl) hs0 ?_
                  simp only [Act.put, List.setIfInBounds_toArray, List.set_cons_zero, List.set_cons_succ]
                  refine hl_skip_np 52 (by kernel_rfl) (by kernel_rfl) rfl (by kernel_rfl) hs0 ?_
                  simp only [Act.put, List.setIfInBounds_toArray, List.set_cons_zero, List.set_cons_succ]
                  refine hl_skip_np 53 (by kernel_rfl) (by kernel_rfl) rfl (by kernel_rfl) hs0 ?_
                  simp only [Act.put, List.setIfInBounds_toArray, List.set_cons_zero, List.set_cons_succ]
                  refine hl_skip_np 54 (by kernel_rfl) (by kernel_rfl) rfl (by kernel_rfl) hs0 ?_
                  simp only [Act.put, List.setIfInBounds_toArray, List.set_cons_zero, List.set_cons_succ]
                  refine hl_skip_np 55 (by kernel_rfl) (by kernel_rfl) rfl (by kernel_rfl) hs0 ?_
                  simp only [Act.put, List.setIfInBounds_toArray, List.set_cons_zero, List.set_cons_succ]
                  refine hl_skip_np 56 (by kernel_rfl) (by kernel_rfl) rfl (by kernel_rfl) hs0 ?_
                  simp only [Act.put, List.setIfInBounds_toArray, List.set_cons_zero, List.set_cons_succ]
                  refine hl_skip_np 57 (by kernel_rfl) (by kernel_rfl) rfl (by kernel_rfl) hs0 ?_
                  simp only [Act.put, List.setIfInBounds_toArray, List.set_cons_zero, List.set_cons_succ]
                  refine hl_skip_np 58 (by kernel_rfl) (by kernel_rfl) rfl (by kernel_rfl) hs0 ?_
                  simp only [Act.put, List.setIfInBounds_toArray, List.set_cons_zero, List.set_cons_succ]
                  refine hl_take_np 59 (by kernel_rfl) (by kernel_rfl) rfl (by kernel_rfl) hs0 (v := ?_) ?_ ?_
                  rotate_left
                  · (rintro x hx; have q0 := hx.cell k0; have q6 := hx.cell k6; have q7 := hx.cell k7; clear hx; go_simp; try rfl)
                  simp only [Act.put, List.setIfInBounds_toArray, List.set_cons_zero, List.set_cons_succ]
                  refine hl_done (by kernel_rfl) ?_ _
                  refine NoPanic.normal ?_
                  replace k0 := hs0.cell k0
                  replace k1 := hs0.cell k1
                  replace k2 := hs0.cell k2
                  replace k3 := hs0.cell k3
                  replace k4 := hs0.cell k4
                  replace k5 := hs0.cell k5
                  replace k6 := hs0.cell k6
                  replace k7 := hs0.cell k7
                  have HGZ := Lib.hid (HGY.out.trans hs0)
                  have HXZ := Lib.hid (HXE.out.g hs0)
                  generalize wy.drew = wz at k0 k1 k2 k3 k4 k5 k6 k7 HGZ HXZ ⊢
                  clear hs0 HGY HXE
                  obtain ⟨o, ho, hy1, hob⟩ := HFA.out.edge (i) _ HEV.out rfl
                  obtain rfl : xq = 0 := congrArg (fun z : PEv => z.2.2.1) hy1
                  have hxo : outE ⟨xf, xt, xl, xm, .slice pv nv cv, xps⟩ = o := congrArg (fun z : PEv => z.2.1) hy1
                  obtain rfl : xa = xm := (congrArg (fun z : PEv => z.2.2.2) hy1).trans (by rw [← hxo]; rfl)
                  have hxb : xa ≤ b := by rw [← hxo] at hob; exact hob
                  rw [← HKK.out] at ho
                  have hkN : kk < Nh := by have := (List.getElem?_eq_some_iff.1 ho).1; have := HNH.out.2.1; omega
                  have hrh : Rdr wz 5 (.slice ph Nh ch) Nh (ecs Lh) := rdr_of_owns (HGZ.out.ownsRow HX5.out.2.2.1)
                  obtain ⟨bh, oh, rfl, e0, e1, e2, e3, e4⟩ := cellsAt5 (L := Lh) hrh HNH.out.1.symm hkN
                  have hmh : Lh[kk]? = some (eat Lh kk) := eat_get (by have := HNH.out.1; omega)
                  have hoe : outE (eat Lh kk) = o := by
                    have h1 := HNH.out.2.2
                    rw [← h1, List.getElem?_map, hmh] at ho
                    simpa using ho
                  have hEh := ((HX5.out.2.2.2.1 _ (List.mem_of_getElem? hmh)).g HGZ.out).at
                  obtain ⟨pe, ne, ce, hev1⟩ := hEh.isE
                  obtain ⟨Eh, hEhh⟩ : ∃ Eh, Eh = eat Lh kk := ⟨_, rfl⟩
                  rw [← hEhh] at e0 e1 e2 e3 e4 hoe hEh hev1
                  rw [hev1] at e4
                  have hEv1 : ev Eh = .agg #[.string Eh.f, .string Eh.t, .string Eh.l, .int .i64 Eh.tm, .slice pe ne ce] := by unfold ev; rw [hev1]
                  have HSE : Hid (∀ X, G wz X → Calls Try.prog 22 #[.agg #[.string xf, .string xt, .string xl, .int .i64 xa, .slice pv nv cv], .agg #[.string Eh.f, .string Eh.t, .string Eh.l, .int .i64 Eh.tm, .slice pe ne ce]] X fun e' w' => e' = .returned (.bool true) ∧ G X w') := Lib.hid (fun X hX => by
                    have h1 := sameE_any _ Eh X (HXZ.out.g hX) (hEh.g hX)
                    rw [sameE_yes (hxo.trans hoe.symm), hEv1] at h1
                    exact h1)
                  have hkI : (kk : Int) < (Nh : Int) := by omega
                  have hkI' : ¬ (Nh : Int) ≤ (kk : Int) := by omega
                  have hk0 : (0 : Int) ≤ (kk : Int) := by omega
                  have htb' : ¬ b < xa := by omega
                  have HK2 : Hid (kk + 1 = nE (evs.take (i + 1))) := Lib.hid (by rw [HKN.out, ← HKK.out]; rfl)
                  clear hy1 ho hrh hmh hoe hEh hev1 hEhh hEv1 hxo hob
                  go_upto_region 25 with fail
                  refine region_hl (fun w' => G wz w') 99 33 (by kernel_rfl) rfl ?_
                  simp only [List.replicate_succ, List.replicate_zero]
                  have hs0 : (fun w' : World => G wz w') wz.drew := (G.refl wz).drew
                  refine hl_take_np 0 (by kernel_rfl) (by kernel_rfl) rfl (by kernel_rfl) hs0 (v := ?_) ?_ ?_
                  rotate_left
                  · (rintro x hx; have q0 := hx.cell k0; have q1 := hx.cell k1; have q2 := hx.cell k2; have q3 := hx.cell k3; have q4 := hx.cell k4; have q5 := hx.cell k5; have q6 := hx.cell k6; have q7 := hx.cell k7; have r0 := hx.cell e0; have r1 := hx.cell e1; have r2 := hx.cell e2; have r3 := hx.cell e3; have r4 := hx.cell e4; clear hx; go_simp; try rfl)
                  simp only [Act.put, List.setIfInBounds_toArray, List.set_cons_zero, List.set_cons_succ]
                  refine hl_take_np 1 (by kernel_rfl) (by kernel_rfl) rfl (by kernel_rfl) hs0 (v := ?_) ?_ ?_
                  rotate_left
                  · (rintro x hx; have q0 := hx.cell k0; have q1 := hx.cell k1; have q2 := hx.cell k2; have q3 := hx.cell k3; have q4 := hx.cell k4; have q5 := hx.cell k5; have q6 := hx.cell k6; have q7 := hx.cell k7; have r0 := hx.cell e0; have r1 := hx.cell e1; have r2 := hx.cell e2; have r3 := hx.cell e3; have r4 := hx.cell e4; clear hx; go_simp; try rfl)
                  simp only [Act.put, List.setIfInBounds_toArray, List.set_cons_zero, List.set_cons_succ]
                  refine hl_take_np 2 (by kernel_rfl) (by kernel_rfl) rfl (by kernel_rfl) hs0 (v := ?_) ?_ ?_
                  rotate_left
                  · (rintro x hx; have q0 := hx.cell k0; have q1 := hx.cell k1; have q2 := hx.cell k2; have q3 := hx.cell k3; have q4 := hx.cell k4; have q5 := hx.cell k5; have q6 := hx.cell k6; have q7 := hx.cell k7; have r0 := hx.cell e0; have r1 := hx.cell e1; have r2 := hx.cell e2; have r3 := hx.cell e3; have r4 := hx.cell e4; clear hx; go_simp; try rfl)
                  simp only [Act.put, List.setIfInBounds_toArray, List.set_cons_zero, List.set_cons_succ]
                  refine hl_take_np 3 (by kernel_rfl) (by kernel_rfl) rfl (by kernel_rfl) hs0 (v := ?_) ?_ ?_
                  rotate_left
                  · (rintro x hx; have q0 := hx.cell k0; have q1 := hx.cell k1; have q2 := hx.cell k2; have q3 := hx.cell k3; have q4 := hx.cell k4; have q5 := hx.cell k5; have q6 := hx.cell k6; have q7 := hx.cell k7; have r0 := hx.cell e0; have r1 := hx.cell e1; have r2 := hx.cell e2; have r3 := hx.cell e3; have r4 := hx.cell e4; clear hx; go_simp; try rfl)
                  simp only [Act.put, List.setIfInBounds_toArray, List.set_cons_zero, List.set_cons_succ]
                  refine hl_take_np 4 (by kernel_rfl) (by kernel_rfl) rfl (by kernel_rfl) hs0 (v := ?_) ?_ ?_
                  rotate_left
                  · (rintro x hx; have q0 := hx.cell k0; have q1 := hx.cell k1; have q2 := hx.cell k2; have q3 := hx.cell k3; have q4 := hx.cell k4; have q5 := hx.cell k5; have q6 := hx.cell k6; have q7 := hx.cell k7; have r0 := hx.cell e0; have r1 := hx.cell e1; have r2 := hx.cell e2; have r3 := hx.cell e3; have r4 := hx.cell e4; clear hx; go_simp; try rfl)
                  simp only [Act.put, List.setIfInBounds_toArray, List.set_cons_zero, List.set_cons_succ]
                  refine hl_take_np 5 (by kernel_rfl) (by kernel_rfl) rfl (by kernel_rfl) hs0 (v := ?_) ?_ ?_
                  rotate_left
                  · (rintro x hx; have q0 := hx.cell k0; have q1 := hx.cell k1; have q2 := hx.cell k2; have q3 := hx.cell k3; have q4 := hx.cell k4; have q5 := hx.cell k5; have q6 := hx.cell k6; have q7 := hx.cell k7; have r0 := hx.cell e0; have r1 := hx.cell e1; have r2 := hx.cell e2; have r3 := hx.cell e3; have r4 := hx.cell e4; clear hx; go_simp; try rfl)
                  simp only [Act.put, List.setIfInBounds_toArray, List.set_cons_zero, List.set_cons_succ]
                  refine hl_take_np 6 (by kernel_rfl) (by kernel_rfl) rfl (by kernel_rfl) hs0 (v := ?_) ?_ ?_
                  rotate_left
                  · (rintro x hx; have q0 := hx.cell k0; have q1 := hx.cell k1; have q2 := hx.cell k2; have q3 := hx.cell k3; have q4 := hx.cell k4; have q5 := hx.cell k5; have q6 := hx.cell k6; have q7 := hx.cell k7; have r0 := hx.cell e0; have r1 := hx.cell e1; have r2 := hx.cell e2; have r3 := hx.cell e3; have r4 := hx.cell e4; clear hx; go_simp; try rfl)
                  simp only [Act.put, List.setIfInBounds_toArray, List.set_cons_zero, List.set_cons_succ]
                  refine hl_take_np 7 (by kernel_rfl) (by kernel_rfl) rfl (by kernel_rfl) hs0 (v := ?_) ?_ ?_
                  rotate_left
                  · (rintro x hx; have q0 := hx.cell k0; have q1 := hx.cell k1; have q2 := hx.cell k2; have q3 := hx.cell k3; have q4 := hx.cell k4; have q5 := hx.cell k5; have q6 := hx.cell k6; have q7 := hx.cell k7; have r0 := hx.cell e0; have r1 := hx.cell e1; have r2 := hx.cell e2; have r3 := hx.cell e3; have r4 := hx.cell e4; clear hx; go_simp; try rfl)
                  simp only [Act.put, List.setIfInBounds_toArray, List.set_cons_zero, List.set_cons_succ]
                  refine hl_take_np 8 (by kernel_rfl) (by kernel_rfl) rfl (by kernel_rfl) hs0 (v := ?_) ?_ ?_
                  rotate_left
                  · (rintro x hx; have q0 := hx.cell k0; have q1 := hx.cell k1; have q2 := hx.cell k2; have q3 := hx.cell k3; have q4 := hx.cell k4; have q5 := hx.cell k5; have q6 := hx.cell k6; have q7 := hx.cell k7; have r0 := hx.cell e0; have r1 := hx.cell e1; have r2 := hx.cell e2; have r3 := hx.cell e3; have r4 := hx.cell e4; clear hx; go_simp; try rfl)
                  simp only [Act.put, List.setIfInBounds_toArray, List.set_cons_zero, List.set_cons_succ]
                  refine hl_take_np 9 (by kernel_rfl) (by kernel_rfl) rfl (by kernel_rfl) hs0 (v := ?_) ?_ ?_
                  rotate_left
                  · (rintro x hx; have q0 := hx.cell k0; have q1 := hx.cell k1; have q2 := hx.cell k2; have q3 := hx.cell k3; have q4 := hx.cell k4; have q5 := hx.cell k5; have q6 := hx.cell k6; have q7 := hx.cell k7; have r0 := hx.cell e0; have r1 := hx.cell e1; have r2 := hx.cell e2; have r3 := hx.cell e3; have r4 := hx.cell e4; clear hx; go_simp; try rfl)
                  simp only [Act.put, List.setIfInBounds_toArray, List.set_cons_zero, List.set_cons_succ]
                  refine hl_take_np 10 (by kernel_rfl) (by kernel_rfl) rfl (by kernel_rfl) hs0 (v := ?_) ?_ ?_
                  rotate_left
                  · (rintro x hx; have q0 := hx.cell k0; have q1 := hx.cell k1; have q2 := hx.cell k2; have q3 := hx.cell k3; have q4 := hx.cell k4; have q5 := hx.cell k5; have q6 := hx.cell k6; have q7 := hx.cell k7; have r0 := hx.cell e0; have r1 := hx.cell e1; have r2 := hx.cell e2; have r3 := hx.cell e3; have r4 := hx.cell e4; clear hx; go_simp; try rfl)
                  simp only [Act.put, List.setIfInBounds_toArray, List.set_cons_zero, List.set_cons_succ]
                  refine hl_stepW 11 (by kernel_rfl) rfl (by kernel_rfl) ?_
                  intro K hK
                  go_simp
                  refine (HSE.out _ hs0).mono ?_
                  rintro e0 w6 ⟨rfl, hga⟩
                  have hs1 : G wz w6 := hs0.trans hga
                  refine hK _ _ (fun _ => hs1) ?_
                  clear hK
                  simp only [Act.put, List.setIfInBounds_toArray, List.set_cons_zero, List.set_cons_succ]
                  refine hl_take_np 12 (by kernel_rfl) (by kernel_rfl) rfl (by kernel_rfl) hs1 (v := ?_) ?_ ?_
                  rotate_left
                  · (rintro x hx; have q3 := hx.cell k4; have q6 := hx.cell k6; have q7 := hx.cell k7; clear hx; go_simp; try rfl)
                  simp only [Act.put, List.setIfInBounds_toArray, List.set_cons_zero, List.set_cons_succ]
                  refine hl_take_np 13 (by kernel_rfl) (by kernel_rfl) rfl (by kernel_rfl) hs1 (v := ?_) ?_ ?_
                  rotate_left
                  · (rintro x hx; have q3 := hx.cell k4; have q6 := hx.cell k6; have q7 := hx.cell k7; clear hx; go_simp; try rfl)
                  simp only [Act.put, List.setIfInBounds_toArray, List.set_cons_zero, List.set_cons_succ]
                  refine hl_take_np 14 (by kernel_rfl) (by kernel_rfl) rfl (by kernel_rfl) hs1 (v := ?_) ?_ ?_
                  rotate_left
                  · (rintro x hx; have q3 := hx.cell k4; have q6 := hx.cell k6; have q7 := hx.cell k7; clear hx; go_simp; try rfl)
                  simp only [Act.put, List.setIfInBounds_toArray, List.set_cons_zero, List.set_cons_succ]
                  refine hl_take_np 15 (by kernel_rfl) (by kernel_rfl) rfl (by kernel_rfl) hs1 (v := ?_) ?_ ?_
                  rotate_left
                  · (rintro x hx; have q3 := hx.cell k4; have q6 := hx.cell k6; have q7 := hx.cell k7; clear hx; go_simp; try rfl)
                  simp only [Act.put, List.setIfInBounds_toArray, List.set_cons_zero, List.set_cons_succ]
                  refine hl_take_np 16 (by kernel_rfl) (by kernel_rfl) rfl (by kernel_rfl) hs1 (v := ?_) ?_ ?_
                  rotate_left
                  · (rintro x hx; have q3 := hx.cell k4; have q6 := hx.cell k6; have q7 := hx.cell k7; clear hx; go_simp; try rfl)
                  simp only [Act.put, List.setIfInBounds_toArray, List.set_cons_zero, List.set_cons_succ]
                  refine hl_take_np 17 (by kernel_rfl) (by kernel_rfl) rfl (by kernel_rfl) hs1 (v := ?_) ?_ ?_
                  rotate_left
                  · (rintro x hx; have q3 := hx.cell k4; have q6 := hx.cell k6; have q7 := hx.cell k7; clear hx; go_simp; try rfl)
                  simp only [Act.put, List.setIfInBounds_toArray, List.set_cons_zero, List.set_cons_succ]
                  refine hl_take_np 18 (by kernel_rfl) (by kernel_rfl) rfl (by kernel_rfl) hs1 (v := ?_) ?_ ?_
                  rotate_left
                  · (rintro x hx; have q3 := hx.cell k4; have q6 := hx.cell k6; have q7 := hx.cell k7; clear hx; go_simp; try rfl)
                  simp only [Act.put, List.setIfInBounds_toArray, List.set_cons_zero, List.set_cons_succ]
                  refine hl_take_np 19 (by kernel_rfl) (by kernel_rfl) rfl (by kernel_rfl) hs1 (v := ?_) ?_ ?_
                  rotate_left
                  · (rintro x hx; have q3 := hx.cell k4; have q6 := hx.cell k6; have q7 := hx.cell k7; clear hx; go_simp; try rfl)
                  simp only [Act.put, List.setIfInBounds_toArray, List.set_cons_zero, List.set_cons_succ]
                  refine hl_take_np 20 (by kernel_rfl) (by kernel_rfl) rfl (by kernel_rfl) hs1 (v := ?_) ?_ ?_
                  rotate_left
                  · (rintro x hx; have q3 := hx.cell k4; have q6 := hx.cell k6; have q7 := hx.cell k7; clear hx; go_simp; try rfl)
                  simp only [Act.put, List.setIfInBounds_toArray, List.set_cons_zero, List.set_cons_succ]
                  refine hl_take_np 21 (by kernel_rfl) (by kernel_rfl) rfl (by kernel_rfl) hs1 (v := ?_) ?_ ?_
                  rotate_left
                  · (rintro x hx; have q3 := hx.cell k4; have q6 := hx.cell k6; have q7 := hx.cell k7; clear hx; go_simp; try rfl)
                  simp only [Act.put, List.setIfInBounds_toArray, List.set_cons_zero, List.set_cons_succ]
                  refine hl_take_np 22 (by kernel_rfl) (by kernel_rfl) rfl (by kernel_rfl) hs1 (v := ?_) ?_ ?_
                  rotate_left
                  · (rintro x hx; have q3 := hx.cell k4; have q6 := hx.cell k6; have q7 := hx.cell k7; clear hx; go_simp; try rfl)
                  simp only [Act.put, List.setIfInBounds_toArray, List.set_cons_zero, List.set_cons_succ]
                  refine hl_take_np 23 (by kernel_rfl) (by kernel_rfl) rfl (by kernel_rfl) hs1 (v := ?_) ?_ ?_
                  rotate_left
                  · (rintro x hx; have q3 := hx.cell k4; have q6 := hx.cell k6; have q7 := hx.cell k7; clear hx; go_simp; try rfl)
                  simp only [Act.put, List.setIfInBounds_toArray, List.set_cons_zero, List.set_cons_succ]
                  refine hl_take_np 24 (by kernel_rfl) (by kernel_rfl) rfl (by kernel_rfl) hs1 (v := ?_) ?_ ?_
                  rotate_left
                  · (rintro x hx; have q3 := hx.cell k4; have q6 := hx.cell k6; have q7 := hx.cell k7; clear hx; go_simp; try rfl)
                  simp only [Act.put, List.setIfInBounds_toArray, List.set_cons_zero, List.set_cons_succ]
                  refine hl_take_np 25 (by kernel_rfl) (by kernel_rfl) rfl (by kernel_rfl) hs1 (v := ?_) ?_ ?_
                  rotate_left
                  · (rintro x hx; have q3 := hx.cell k4; have q6 := hx.cell k6; have q7 := hx.cell k7; clear hx; go_simp; try rfl)
                  simp only [Act.put, List.setIfInBounds_toArray, List.set_cons_zero, List.set_cons_succ]
                  refine hl_take_np 26 (by kernel_rfl) (by kernel_rfl) rfl (by kernel_rfl) hs1 (v := ?_) ?_ ?_
                  rotate_left
                  · (rintro x hx; have q3 := hx.cell k4; have q6 := hx.cell k6; have q7 := hx.cell k7; clear hx; go_simp; try rfl)
                  simp only [Act.put, List.setIfInBounds_toArray, List.set_cons_zero, List.set_cons_succ]
                  refine hl_take_np 27 (by kernel_rfl) (by kernel_rfl) rfl (by kernel_rfl) hs1 (v := ?_) ?_ ?_
                  rotate_left
                  · (rintro x hx; have q3 := hx.cell k4; have q6 := hx.cell k6; have q7 := hx.cell k7; clear hx; go_simp; try rfl)
                  simp only [Act.put, List.setIfInBounds_toArray, List.set_cons_zero, List.set_cons_succ]
                  refine hl_take_np 28 (by kernel_rfl) (by kernel_rfl) rfl (by kernel_rfl) hs1 (v := ?_) ?_ ?_
                  rotate_left
                  · (rintro x hx; have q3 := hx.cell k4; have q6 := hx.cell k6; have q7 := hx.cell k7; clear hx; go_simp; try rfl)
                  simp only [Act.put, List.setIfInBounds_toArray, List.set_cons_zero, List.set_cons_succ]
                  refine hl_take_np 29 (by kernel_rfl) (by kernel_rfl) rfl (by kernel_rfl) hs1 (v := ?_) ?_ ?_
                  rotate_left
                  · (rintro x hx; have q3 := hx.cell k4; have q6 := hx.cell k6; have q7 := hx.cell k7; clear hx; go_simp; try rfl)
                  simp only [Act.put, List.setIfInBounds_toArray, List.set_cons_zero, List.set_cons_succ]
                  refine hl_take_np 30 (by kernel_rfl) (by kernel_rfl) rfl (by kernel_rfl) hs1 (v := ?_) ?_ ?_
                  rotate_left
                  · (rintro x hx; have q3 := hx.cell k4; have q6 := hx.cell k6; have q7 := hx.cell k7; clear hx; go_simp; try rfl)
                  simp only [Act.put, List.setIfInBounds_toArray, List.set_cons_zero, List.set_cons_succ]
                  refine hl_take_np 31 (by kernel_rfl) (by kernel_rfl) rfl (by kernel_rfl) hs1 (v := ?_) ?_ ?_
                  rotate_left
                  · (rintro x hx; have q3 := hx.cell k4; have q6 := hx.cell k6; have q7 := hx.cell k7; clear hx; go_simp; try rfl)
                  simp only [Act.put, List.setIfInBounds_toArray, List.set_cons_zero, List.set_cons_succ]
                  refine hl_take_np 32 (by kernel_rfl) (by kernel_rfl) rfl (by kernel_rfl) hs1 (v := ?_) ?_ ?_
                  rotate_left
                  · (rintro x hx; have q3 := hx.cell k4; have q6 := hx.cell k6; have q7 := hx.cell k7; clear hx; go_simp; try rfl)
                  simp only [Act.put, List.setIfInBounds_toArray, List.set_cons_zero, List.set_cons_succ]
                  refine hl_done (by kernel_rfl) ?_ _
                  refine NoPanic.normal ?_
                  have HG7 := Lib.hid (HGZ.out.trans hs1)
                  clear hs0 hs1 hga k0 k1 k2 k3 k4 k5 k6 k7 e0 e1 e2 e3 e4 HSE
                  go_wp2_with fail
                  go_roundw
                  case rel => exact ⟨i + 1, kk + 1, mm, by go_num, rfl, by go_num, by omega, HK2, by omega, HG7⟩
                  case measure => simp [intOf]; omega
              · obtain ⟨j, rfl⟩ : ∃ j, i = j + 1 := ⟨i - 1, by omega⟩
                obtain ⟨y, hy, hrv⟩ := HPV.out j rfl
                have hrx : Rdr wy 8 (.slice (some ⟨bx, ox, none⟩) Nx cx) Nx (vcs X) := rdr_of_owns (HGY.out.ownsRow HX5.out.1)
                obtain ⟨bx', ox', he', d0, -, -, -, -, -, d6, d7⟩ := cellsAt8 hrx HNX.out.1 hy
                cases he'
                obtain ⟨ycl, ye, yq, ya⟩ := y
                simp only at d0 d6 d7
                have hjw : IntKind.i64.wrap (j : Int) = (j : Int) := IntWalk.i64_in _ (by omega)
                have hjm : (j : Int) < (Nx : Int) := by omega
                have hj0 : (0 : Int) ≤ (j : Int) := by omega
                have hjp : 0 < j + 1 := by omega
                clear hy hrx
                have hrv2 : ya < xa ∨ (ya = xa ∧ (ycl = false ∨ (ycl = true ∧ false = true ∧ yq < xq))) := hrv
                clear hrv
                rcases hrv2 with hlt1 | ⟨heq, hrv3⟩
                · have hn1 : ¬ xa < ya := by omega
                  have hn2 : ¬ xa = ya := by omega
                  have hn2b : (xa == ya) = false := by simpa using hn2
                  clear HPV
                  as_aux_lemma =>
                    refine region_hl (fun w' => G wy w') 99 60 (by kernel_rfl) rfl ?_
                    simp only [List.replicate_succ, List.replicate_zero]
                    have hs0 : (fun w' : World => G wy w') wy.drew := (G.refl wy).drew
                    refine hl_take_np 0 (by kernel_rfl) (by kernel_rfl) rfl (by kernel_rfl) hs0 (v := ?_) ?_ ?_
                    rotate_left
                    · (rintro x hx; have q0 := hx.cell k0; have q6 := hx.cell k6; have q7 := hx.cell k7; have r0 := hx.cell d0; have r6 := hx.cell d6; have r7 := hx.cell d7; clear hx; go_simp; try rfl)
                    simp only [Act.put, List.setIfInBounds_toArray, List.set_cons_zero, List.set_cons_succ]
                    refine hl_take_np 1 (by kernel_rfl) (by kernel_rfl) rfl (by kernel_rfl) hs0 (v := ?_) ?_ ?_
                    rotate_left
                    · (rintro x hx; have q0 := hx.cell k0; have q6 := hx.cell k6; have q7 := hx.cell k7; have r0 := hx.cell d0; have r6 := hx.cell d6; have r7 := hx.cell d7; clear hx; go_simp; try rfl)
                    simp only [Act.put, List.setIfInBounds_toArray, List.set_cons_zero, List.set_cons_succ]
                    refine hl_take_np 2 (by kernel_rfl) (by kernel_rfl) rfl (by kernel_rfl) hs0 (v := ?_) ?_ ?_
                    rotate_left
                    · (rintro x hx; have q0 := hx.cell k0; have q6 := hx.cell k6; have q7 := hx.cell k7; have r0 := hx.cell d0; have r6 := hx.cell d6; have r7 := hx.cell d7; clear hx; go_simp; try rfl)
                    simp only [Act.put, List.setIfInBounds_toArray, List.set_cons_zero, List.set_cons_succ]
                    refine hl_take_np 3 (by kernel_rfl) (by kernel_rfl) rfl (by kernel_rfl) hs0 (v := ?_) ?_ ?_
                    rotate_left
                    · (rintro x hx; have q0 := hx.cell k0; have q6 := hx.cell k6; have q7 := hx.cell k7; have r0 := hx.cell d0; have r6 := hx.cell d6; have r7 := hx.cell d7; clear hx; go_simp; try rfl)
                    simp only [Act.put, List.setIfInBounds_toArray, List.set_cons_zero, List.set_cons_succ]
                    refine hl_take_np 4 (by kernel_rfl) (by kernel_rfl) rfl (by kernel_rfl) hs0 (v := ?_) ?_ ?_
                    rotate_left
                    · (rintro x hx; have q0 := hx.cell k0; have q6 := hx.cell k6; have q7 := hx.cell k7; have r0 := hx.cell d0; have r6 := hx.cell d6; have r7 := hx.cell d7; clear hx; go_simp; try rfl)
                    simp only [Act.put, List.setIfInBounds_toArray, List.set_cons_zero, List.set_cons_succ]
                    refine hl_take_np 5 (by kernel_rfl) (by kernel_rfl) rfl (by kernel_rfl) hs0 (v := ?_) ?_ ?_
                    rotate_left
                    · (rintro x hx; have q0 := hx.cell k0; have q6 := hx.cell k6; have q7 := hx.cell k7; have r0 := hx.cell d0; have r6 := hx.cell d6; have r7 := hx.cell d7; clear hx; go_simp; try rfl)
                    simp only [Act.put, List.setIfInBounds_toArray, List.set_cons_zero, List.set_cons_succ]
                    refine hl_take_np 6 (by kernel_rfl) (by kernel_rfl) rfl (by kernel_rfl) hs0 (v := ?_) ?_ ?_
                    rotate_left
                    · (rintro x hx; have q0 := hx.cell k0; have q6 := hx.cell k6; have q7 := hx.cell k7; have r0 := hx.cell d0; have r6 := hx.cell d6; have r7 := hx.cell d7; clear hx; go_simp; try rfl)
                    simp only [Act.put, List.setIfInBounds_toArray, List.set_cons_zero, List.set_cons_succ]
                    refine hl_take_np 7 (by kernel_rfl) (by kernel_rfl) rfl (by kernel_rfl) hs0 (v := ?_) ?_ ?_
                    rotate_left
                    · (rintro x hx; have q0 := hx.cell k0; have q6 := hx.cell k6; have q7 := hx.cell k7; have r0 := hx.cell d0; have r6 := hx.cell d6; have r7 := hx.cell d7; clear hx; go_simp; try rfl)
                    simp only [Act.put, List.setIfInBounds_toArray, List.set_cons_zero, List.set_cons_succ]
                    refine hl_take_np 8 (by kernel_rfl) (by kernel_rfl) rfl (by kernel_rfl) hs0 (v := ?_) ?_ ?_
                    rotate_left
                    · (rintro x hx; have q0 := hx.cell k0; have q6 := hx.cell k6; have q7 := hx.cell k7; have r0 := hx.cell d0; have r6 := hx.cell d6; have r7 := hx.cell d7; clear hx; go_simp; try rfl)
                    simp only [Act.put, List.setIfInBounds_toArray, List.set_cons_zero, List.set_cons_succ]
                    refine hl_take_np 9 (by kernel_rfl) (by kernel_rfl) rfl (by kernel_rfl) hs0 (v := ?_) ?_ ?_
                    rotate_left
                    · (rintro x hx; have q0 := hx.cell k0; have q6 := hx.cell k6; have q7 := hx.cell k7; have r0 := hx.cell d0; have r6 := hx.cell d6; have r7 := hx.cell d7; clear hx; go_simp; try rfl)
                    simp only [Act.put, List.setIfInBounds_toArray, List.set_cons_zero, List.set_cons_succ]
                    refine hl_take_np 10 (by kernel_rfl) (by kernel_rfl) rfl (by kernel_rfl) hs0 (v := ?_) ?_ ?_
                    rotate_left
                    · (rintro x hx; have q0 := hx.cell k0; have q6 := hx.cell k6; have q7 := hx.cell k7; have r0 := hx.cell d0; have r6 := hx.cell d6; have r7 := hx.cell d7; clear hx; go_simp; try rfl)
                    simp only [Act.put, List.setIfInBounds_toArray, List.set_cons_zero, List.set_cons_succ]
                    refine hl_take_np 11 (by kernel_rfl) (by kernel_rfl) rfl (by kernel_rfl) hs0 (v := ?_) ?_ ?_
                    rotate_left
                    · (rintro x hx; have q0 := hx.cell k0; have q6 := hx.cell k6; have q7 := hx.cell k7; have r0 := hx.cell d0; have r6 := hx.cell d6; have r7 := hx.cell d7; clear hx; go_simp; try rfl)
                    simp only [Act.put, List.setIfInBounds_toArray, List.set_cons_zero, List.set_cons_succ]
                    refine hl_take_np 12 (by kernel_rfl) (by kernel_rfl) rfl (by kernel_rfl) hs0 (v := ?_) ?_ ?_
                    rotate_left
                    · (rintro x hx; have q0 := hx.cell k0; have q6 := hx.cell k6; have q7 := hx.cell k7; have r0 := hx.cell d0; have r6 := hx.cell d6; have r7 := hx.cell d7; clear hx; go_simp; try rfl)
                    simp only [Act.put, List.setIfInBounds_toArray, List.set_cons_zero, List.set_cons_succ]
                    refine hl_take_np 13 (by kernel_rfl) (by kernel_rfl) rfl (by kernel_rfl) hs0 (v := ?_) ?_ ?_
                    rotate_left
                    · (rintro x hx; have q0 := hx.cell k0; have q6 := hx.cell k6; have q7 := hx.cell k7; have r0 := hx.cell d0; have r6 := hx.cell d6; have r7 := hx.cell d7; clear hx; go_simp; try rfl)
                    simp only [Act.put, List.setIfInBounds_toArray, List.set_cons_zero, List.set_cons_succ]
                    refine hl_take_np 14 (by kernel_rfl) (by kernel_rfl) rfl (by kernel_rfl) hs0 (v := ?_) ?_ ?_
                    rotate_left
                    · (rintro x hx; have q0 := hx.cell k0; have q6 := hx.cell k6; have q7 := hx.cell k7; have r0 := hx.cell d0; have r6 := hx.cell d6; have r7 := hx.cell d7; clear hx; go_simp; try rfl)
                    simp only [Act.put, List.setIfInBounds_toArray, List.set_cons_zero, List.set_cons_succ]
                    refine hl_take_np 15 (by kernel_rfl) (by kernel_rfl) rfl (by kernel_rfl) hs0 (v := ?_) ?_ ?_
                    rotate_left
                    · (rintro x hx; have q0 := hx.cell k0; have q6 := hx.cell k6; have q7 := hx.cell k7; have r0 := hx.cell d0; have r6 := hx.cell d6; have r7 := hx.cell d7; clear hx; go_simp; try rfl)
                    simp only [Act.put, List.setIfInBounds_toArray, List.set_cons_zero, List.set_cons_succ]
                    refine hl_take_np 16 (by kernel_rfl) (by kernel_rfl) rfl (by kernel_rfl) hs0 (v := ?_) ?_ ?_
                    rotate_left
                    · (rintro x hx; have q0 := hx.cell k0; have q6 := hx.cell k6; have q7 := hx.cell k7; have r0 := hx.cell d0; have r6 := hx.cell d6; have r7 := hx.cell d7; clear hx; go_simp; try rfl)
                    simp only [Act.put, List.setIfInBounds_toArray, List.set_cons_zero, List.set_cons_succ]
                    refine hl_take_np 17 (by kernel_rfl) (by kernel_rfl) rfl (by kernel_rfl) hs0 (v := ?_) ?_ ?_
                    rotate_left
                    · (rintro x hx; have q0 := hx.cell k0; have q6 := hx.cell k6; have q7 := hx.cell k7; have r0 := hx.cell d0; have r6 := hx.cell d6; have r7 := hx.cell d7; clear hx; go_simp; try rfl)
                    simp only [Act.put, List.setIfInBounds_toArray, List.set_cons_zero, List.set_cons_succ]
                    refine hl_take_np 18 (by kernel_rfl) (by kernel_rfl) rfl (by kernel_rfl) hs0 (v := ?_) ?_ ?_
                    rotate_left
                    · (rintro x hx; have q0 := hx.cell k0; have q6 := hx.cell k6; have q7 := hx.cell k7; have r0 := hx.cell d0; have r6 := hx.cell d6; have r7 := hx.cell d7; clear hx; go_simp; try rfl)
                    simp only [Act.put, List.setIfInBounds_toArray, List.set_cons_zero, List.set_cons_succ]
                    refine hl_take_np 19 (by kernel_rfl) (by kernel_rfl) rfl (by kernel_rfl) hs0 (v := ?_) ?_ ?_
                    rotate_left
                    · (rintro x hx; have q0 := hx.cell k0; have q6 := hx.cell k6; have q7 := hx.cell k7; have r0 := hx.cell d0; have r6 := hx.cell d6; have r7 := hx.cell d7; clear hx; go_simp; try rfl)
                    simp only [Act.put, List.setIfInBounds_toArray, List.set_cons_zero, List.set_cons_succ]
                    refine hl_take_np 20 (by kernel_rfl) (by kernel_rfl) rfl (by kernel_rfl) hs0 (v := ?_) ?_ ?_
                    rotate_left
                    · (rintro x hx; have q0 := hx.cell k0; have q6 := hx.cell k6; have q7 := hx.cell k7; have r0 := hx.cell d0; have r6 := hx.cell d6; have r7 := hx.cell d7; clear hx; go_simp; try rfl)
                    simp only [Act.put, List.setIfInBounds_toArray, List.set_cons_zero, List.set_cons_succ]
                    refine hl_take_np 21 (by kernel_rfl) (by kernel_rfl) rfl (by kernel_rfl) hs0 (v := ?_) ?_ ?_
                    rotate_left
                    · (rintro x hx; have q0 := hx.cell k0; have q6 := hx.cell k6; have q7 := hx.cell k7; have r0 := hx.cell d0; have r6 := hx.cell d6; have r7 := hx.cell d7; clear hx; go_simp; try rfl)
                    simp only [Act.put, List.setIfInBounds_toArray, List.set_cons_zero, List.set_cons_succ]
                    refine hl_take_np 22 (by kernel_rfl) (by kernel_rfl) rfl (by kernel_rfl) hs0 (v := ?_) ?_ ?_
                    rotate_left
                    · (rintro x hx; have q0 := hx.cell k0; have q6 := hx.cell k6; have q7 := hx.cell k7; have r0 := hx.cell d0; have r6 := hx.cell d6; have r7 := hx.cell d7; clear hx; go_simp; try rfl)
                    simp only [Act.put, List.setIfInBounds_toArray, List.set_cons_zero, List.set_cons_succ]
                    refine hl_skip_np 23 (by kernel_rfl) (by kernel_rfl) rfl (by kernel_rfl) hs0 ?_
                    simp only [Act.put, List.setIfInBounds_toArray, List.set_cons_zero, List.set_cons_succ]
                    refine hl_skip_np 24 (by kernel_rfl) (by kernel_rfl) rfl (by kernel_rfl) hs0 ?_
                    simp only [Act.put, List.setIfInBounds_toArray, List.set_cons_zero, List.set_cons_succ]
                    refine hl_skip_np 25 (by kernel_rfl) (by kernel_rfl) rfl (by kernel_rfl) hs0 ?_
                    simp only [Act.put, List.setIfInBounds_toArray, List.set_cons_zero, List.set_cons_succ]
                    refine hl_skip_np 26 (by kernel_rfl) (by kernel_rfl) rfl (by kernel_rfl) hs0 ?_
                    simp only [Act.put, List.setIfInBounds_toArray, List.set_cons_zero, List.set_cons_succ]
                    refine hl_skip_np 27 (by kernel_rfl) (by kernel_rfl) rfl (by kernel_rfl) hs0 ?_
                    simp only [Act.put, List.setIfInBounds_toArray, List.set_cons_zero, List.set_cons_succ]
                    refine hl_skip_np 28 (by kernel_rfl) (by kernel_rfl) rfl (by kernel_rfl) hs0 ?_
                    simp only [Act.put, List.setIfInBounds_toArray, List.set_cons_zero, List.set_cons_succ]
                    refine hl_skip_np 29 (by kernel_rfl) (by kernel_rfl) rfl (by kernel_rfl) hs0 ?_
                    simp only [Act.put, List.setIfInBounds_toArray, List.set_cons_zero, List.set_cons_succ]
                    refine hl_skip_np 30 (by kernel_rfl) (by kernel_rfl) rfl (by kernel_rfl) hs0 ?_
                    simp only [Act.put, List.setIfInBounds_toArray, List.set_cons_zero, List.set_cons_succ]
                    refine hl_skip_np 31 (by kernel_rfl) (by kernel_rfl) rfl (by kernel_rfl) hs0 ?_
                    simp only [Act.put, List.setIfInBounds_toArray, List.set_cons_zero, List.set_cons_succ]
                    refine hl_skip_np 32 (by kernel_rfl) (by kernel_rfl) rfl (by kernel_rfl) hs0 ?_
                    simp only [Act.put, List.setIfInBounds_toArray, List.set_cons_zero, List.set_cons_succ]
                    refine hl_skip_np 33 (by kernel_rfl) (by kernel_rfl) rfl (by kernel_rfl) hs0 ?_
                    simp only [Act.put, List.setIfInBounds_toArray, List.set_cons_zero, List.set_cons_succ]
                    refine hl_skip_np 34 (by kernel_rfl) (by kernel_rfl) rfl (by kernel_rfl) hs0 ?_
                    simp only [Act.put, List.setIfInBounds_toArray, List.set_cons_zero, List.set_cons_succ]
                    refine hl_skip_np 35 (by kernel_rfl) (by kernel_rfl) rfl (by kernel_rfl) hs0 ?_
                    simp only [Act.put, List.setIfInBounds_toArray, List.set_cons_zero, List.set_cons_succ]
                    refine hl_skip_np 36 (by kernel_rfl) (by kernel_rfl) rfl (by kernel_rfl) hs0 ?_
                    simp only [Act.put, List.setIfInBounds_toArray, List.set_cons_zero, List.set_cons_succ]
                    refine hl_skip_np 37 (by kernel_rfl) (by kernel_rfl) rfl (by kernel_rfl) hs0 ?_
                    simp only [Act.put, List.setIfInBounds_toArray, List.set_cons_zero, List.set_cons_succ]
                    refine hl_skip_np 38 (by kernel_rfl) (by kernel_rfl) rfl (by kernel_rfl) hs0 ?_
                    simp only [Act.put, List.setIfInBounds_toArray, List.set_cons_zero, List.set_cons_succ]
                    refine hl_skip_np 39 (by kernel_rfl) (by kernel_rfl) rfl (by kernel_rfl) hs0 ?_
                    simp only [Act.put, List.setIfInBounds_toArray, List.set_cons_zero, List.set_cons_succ]
                    refine hl_skip_np 40 (by kernel_rfl) (by kernel_rfl) rfl (by kernel_rfl) hs0 ?_
                    simp only [Act.put, List.setIfInBounds_toArray, List.set_cons_zero, List.set_cons_succ]
                    refine hl_skip_np 41 (by kernel_rfl) (by kernel_rfl) rfl (by kernel_rfl) hs0 ?_
                    simp only [Act.put, List.setIfInBounds_toArray, List.set_cons_zero, List.set_cons_succ]
                    refine hl_skip_np 42 (by kernel_rfl) (by kernel_rfl) rfl (by kernel_rfl) hs0 ?_
                    simp only [Act.put, List.setIfInBounds_toArray, List.set_cons_zero, List.set_cons_succ]
                    refine hl_skip_np 43 (by kernel_rfl) (by kernel_rfl) rfl (by kernel_rfl) hs0 ?_
                    simp only [Act.put, List.setIfInBounds_toArray, List.set_cons_zero, List.set_cons_succ]
                    refine hl_skip_np 44 (by kernel_rfl) (by kernel_rfl) rfl (by kernel_rfl) hs0 ?_
                    simp only [Act.put, List.setIfInBounds_toArray, List.set_cons_zero, List.set_cons_succ]
                    refine hl_skip_np 45 (by kernel_rfl) (by kernel_rfl) rfl (by kernel_rfl) hs0 ?_
                    simp only [Act.put, List.setIfInBounds_toArray, List.set_cons_zero, List.set_cons_succ]
                    refine hl_skip_np 46 (by kernel_rfl) (by kernel_rfl) rfl (by kernel_rfl) hs0 ?_
                    simp only [Act.put, List.setIfInBounds_toArray, List.set_cons_zero, List.set_cons_succ]
                    refine hl_skip_np 47 (by kernel_rfl) (by kernel_rfl) rfl (by kernel_rfl) hs0 ?_
                    simp only [Act.put, List.setIfInBounds_toArray, List.set_cons_zero, List.set_cons_succ]
                    refine hl_skip_np 48 (by kernel_rfl) (by kernel_rfl) rfl (by kernel_rfl) hs0 ?_
                    simp only [Act.put, List.setIfInBounds_toArray, List.set_cons_zero, List.set_cons_succ]
                    refine hl_skip_np 49 (by kernel_rfl) (by kernel_rfl) rfl (by kernel_rfl) hs0 ?_
                    simp only [Act.put, List.setIfInBounds_toArray, List.set_cons_zero, List.set_cons_succ]
                    refine hl_skip_np 50 (by kernel_rfl) (by kernel_rfl) rfl (by kernel_rfl) hs0 ?_
                    simp only [Act.put, List.setIfInBounds_toArray, List.set_cons_zero, List.set_cons_succ]
                    refine hl_skip_np 51 (by kernel_rfl) (by kernel_rfl) rfl (by kernel_rfl) hs0 ?_
                    simp only [Act.put, List.setIfInBounds_toArray, List.set_cons_zero, List.set_cons_succ]
                    refine hl_skip_np 52 (by kernel_rfl) (by kernel_rfl) rfl (by kernel_rfl) hs0 ?_
                    simp only [Act.put, List.setIfInBounds_toArray, List.set_cons_zero, List.set_cons_succ]
                    refine hl_skip_np 53 (by kernel_rfl) (by kernel_rfl) rfl (by kernel_rfl) hs0 ?_
                    simp only [Act.put, List.setIfInBounds_toArray, List.set_cons_zero, List.set_cons_succ]
                    refine hl_skip_np 54 (by kernel_rfl) (by kernel_rfl) rfl (by kernel_rfl) hs0 ?_
                    simp only [Act.put, List.setIfInBounds_toArray, List.set_cons_zero, List.set_cons_succ]
                    refine hl_skip_np 55 (by kernel_rfl) (by kernel_rfl) rfl (by kernel_rfl) hs0 ?_
                    simp only [Act.put, List.setIfInBounds_toArray, List.set_cons_zero, List.set_cons_succ]
                    refine hl_skip_np 56 (by kernel_rfl) (by kernel_rfl) rfl (by kernel_rfl) hs0 ?_
                    simp only [Act.put, List.setIfInBounds_toArray, List.set_cons_zero, List.set_cons_succ]
                    refine hl_take_np 57 (by kernel_rfl) (by kernel_rfl) rfl (by kernel_rfl) hs0 (v := ?_) ?_ ?_
                    rotate_left
                    · (rintro x hx; have q0 := hx.cell k0; have q6 := hx.cell k6; have q7 := hx.cell k7; have r0 := hx.cell d0; have r6 := hx.cell d6; have r7 := hx.cell d7; clear hx; go_simp; try rfl)
                    simp only [Act.put, List.setIfInBounds_toArray, List.set_cons_zero, List.set_cons_succ]
                    refine hl_take_np 58 (by kernel_rfl) (by kernel_rfl) rfl (by kernel_rfl) hs0 (v := ?_) ?_ ?_
                    rotate_left
                    · (rintro x hx; have q0 := hx.cell k0; have q6 := hx.cell k6; have q7 := hx.cell k7; have r0 := hx.cell d0; have r6 := hx.cell d6; have r7 := hx.cell d7; clear hx; go_simp; try rfl)
                    simp only [Act.put, List.setIfInBounds_toArray, List.set_cons_zero, List.set_cons_succ]
                    refine hl_take_np 59 (by kernel_rfl) (by kernel_rfl) rfl (by kernel_rfl) hs0 (v := ?_) ?_ ?_
                    rotate_left
                    · (rintro x hx; have q0 := hx.cell k0; have q6 := hx.cell k6; have q7 := hx.cell k7; have r0 := hx.cell d0; have r6 := hx.cell d6; have r7 := hx.cell d7; clear hx; go_simp; try rfl)
                    simp only [Act.put, List.setIfInBounds_toArray, List.set_cons_zero, List.set_cons_succ]
                    refine hl_done (by kernel_rfl) ?_ _
                    refine NoPanic.normal ?_
                    replace k0 := hs0.cell k0
                    replace k1 := hs0.cell k1
                    replace k2 := hs0.cell k2
                    replace k3 := hs0.cell k3
                    replace k4 := hs0.cell k4
                    replace k5 := hs0.cell k5
                    replace k6 := hs0.cell k6
                    replace k7 := hs0.cell k7
                    have HGZ := Lib.hid (HGY.out.trans hs0)
                    have HXZ := Lib.hid (HXE.out.g hs0)
                    clear d0 d6 d7
                    generalize wy.drew = wz at k0 k1 k2 k3 k4 k5 k6 k7 HGZ HXZ ⊢
                    clear hs0 HGY HXE
                    obtain ⟨o, ho, hy1, hob⟩ := HFA.out.edge (j + 1) _ HEV.out rfl
                    obtain rfl : xq = 0 := congrArg (fun z : PEv => z.2.2.1) hy1
                    have hxo : outE ⟨xf, xt, xl, xm, .slice pv nv cv, xps⟩ = o := congrArg (fun z : PEv => z.2.1) hy1
                    obtain rfl : xa = xm := (congrArg (fun z : PEv => z.2.2.2) hy1).trans (by rw [← hxo]; rfl)
                    have hxb : xa ≤ b := by rw [← hxo] at hob; exact hob
                    rw [← HKK.out] at ho
                    have hkN : kk < Nh := by have := (List.getElem?_eq_some_iff.1 ho).1; have := HNH.out.2.1; omega
                    have hrh : Rdr wz 5 (.slice ph Nh ch) Nh (ecs Lh) := rdr_of_owns (HGZ.out.ownsRow HX5.out.2.2.1)
                    obtain ⟨bh, oh, rfl, e0, e1, e2, e3, e4⟩ := cellsAt5 (L := Lh) hrh HNH.out.1.symm hkN
                    have hmh : Lh[kk]? = some (eat Lh kk) := eat_get (by have := HNH.out.1; omega)
                    have hoe : outE (eat Lh kk) = o := by
                      have h1 := HNH.out.2.2
                      rw [← h1, List.getElem?_map, hmh] at ho
                      simpa using ho
                    have hEh := ((HX5.out.2.2.2.1 _ (List.mem_of_getElem? hmh)).g HGZ.out).at
                    obtain ⟨pe, ne, ce, hev1⟩ := hEh.isE
                    obtain ⟨Eh, hEhh⟩ : ∃ Eh, Eh = eat Lh kk := ⟨_, rfl⟩
                    rw [← hEhh] at e0 e1 e2 e3 e4 hoe hEh hev1
                    rw [hev1] at e4
                    have hEv1 : ev Eh = .agg #[.string Eh.f, .string Eh.t, .string Eh.l, .int .i64 Eh.tm, .slice pe ne ce] := by unfold ev; rw [hev1]
                    have HSE : Hid (∀ X, G wz X → Calls Try.prog 22 #[.agg #[.string xf, .string xt, .string xl, .int .i64 xa, .slice pv nv cv], .agg #[.string Eh.f, .string Eh.t, .string Eh.l, .int .i64 Eh.tm, .slice pe ne ce]] X fun e' w' => e' = .returned (.bool true) ∧ G X w') := Lib.hid (fun X hX => by
                      have h1 := sameE_any _ Eh X (HXZ.out.g hX) (hEh.g hX)
                      rw [sameE_yes (hxo.trans hoe.symm), hEv1] at h1
                      exact h1)
                    have hkI : (kk : Int) < (Nh : Int) := by omega
                    have hkI' : ¬ (Nh : Int) ≤ (kk : Int) := by omega
                    have hk0 : (0 : Int) ≤ (kk : Int) := by omega
                    have htb' : ¬ b < xa := by omega
                    have HK2 : Hid (kk + 1 = nE (evs.take (j + 1 + 1))) := Lib.hid (by rw [HKN.out, ← HKK.out]; rfl)
                    clear hy1 ho hrh hmh hoe hEh hev1 hEhh hEv1 hxo hob
                    go_upto_region 25 with fail
                    refine region_hl (fun w' => G wz w') 99 33 (by kernel_rfl) rfl ?_
                    simp only [List.replicate_succ, List.replicate_zero]
                    have hs0 : (fun w' : World => G wz w') wz.drew := (G.refl wz).drew
                    refine hl_take_np 0 (by kernel_rfl) (by kernel_rfl) rfl (by kernel_rfl) hs0 (v := ?_) ?_ ?_
                    rotate_left
                    · (rintro x hx; have q0 := hx.cell k0; have q1 := hx.cell k1; have q2 := hx.cell k2; have q3 := hx.cell k3; have q4 := hx.cell k4; have q5 := hx.cell k5; have q6 := hx.cell k6; have q7 := hx.cell k7; have r0 := hx.cell e0; have r1 := hx.cell e1; have r2 := hx.cell e2; have r3 := hx.cell e3; have r4 := hx.cell e4; clear hx; go_simp; try rfl)
                    simp only [Act.put, List.setIfInBounds_toArray, List.set_cons_zero, List.set_cons_succ]
                    refine hl_take_np 1 (by kernel_rfl) (by kernel_rfl) rfl (by kernel_rfl) hs0 (v := ?_) ?_ ?_
                    rotate_left
                    · (rintro x hx; have q0 := hx.cell k0; have q1 := hx.cell k1; have q2 := hx.cell k2; have q3 := hx.cell k3; have q4 := hx.cell k4; have q5 := hx.cell k5; have q6 := hx.cell k6; have q7 := hx.cell k7; have r0 := hx.cell e0; have r1 := hx.cell e1; have r2 := hx.cell e2; have r3 := hx.cell e3; have r4 := hx.cell e4; clear hx; go_simp; try rfl)
                    simp only [Act.put, List.setIfInBounds_toArray, List.set_cons_zero, List.set_cons_succ]
                    refine hl_take_np 2 (by kernel_rfl) (by kernel_rfl) rfl (by kernel_rfl) hs0 (v := ?_) ?_ ?_
                    rotate_left
                    · (rintro x hx; have q0 := hx.cell k0; have q1 := hx.cell k1; have q2 := hx.cell k2; have q3 := hx.cell k3; have q4 := hx.cell k4; have q5 := hx.cell k5; have q6 := hx.cell k6; have q7 := hx.cell k7; have r0 := hx.cell e0; have r1 := hx.cell e1; have r2 := hx.cell e2; have r3 := hx.cell e3; have r4 := hx.cell e4; clear hx; go_simp; try rfl)
                    simp only [Act.put, List.setIfInBounds_toArray, List.set_cons_zero, List.set_cons_succ]
                    refine hl_take_np 3 (by kernel_rfl) (by kernel_rfl) rfl (by kernel_rfl) hs0 (v := ?_) ?_ ?_
                    rotate_left
                    · (rintro x hx; have q0 := hx.cell k0; have q1 := hx.cell k1; have q2 := hx.cell k2; have q3 := hx.cell k3; have q4 := hx.cell k4; have q5 := hx.cell k5; have q6 := hx.cell k6; have q7 := hx.cell k7; have r0 := hx.cell e0; have r1 := hx.cell e1; have r2 := hx.cell e2; have r3 := hx.cell e3; have r4 := hx.cell e4; clear hx; go_simp; try rfl)
                    simp only [Act.put, List.setIfInBounds_toArray, List.set_cons_zero, List.set_cons_succ]
                    refine hl_take_np 4 (by kernel_rfl) (by kernel_rfl) rfl (by kernel_rfl) hs0 (v := ?_) ?_ ?_
                    rotate_left
                    · (rintro x hx; have q0 := hx.cell k0; have q1 := hx.cell k1; have q2 := hx.cell k2; have q3 := hx.cell k3; have q4 := hx.cell k4; have q5 := hx.cell k5; have q6 := hx.cell k6; have q7 := hx.cell k7; have r0 := hx.cell e0; have r1 := hx.cell e1; have r2 := hx.cell e2; have r3 := hx.cell e3; have r4 := hx.cell e4; clear hx; go_simp; try rfl)
                    simp only [Act.put, List.setIfInBounds_toArray, List.set_cons_zero, List.set_cons_succ]
                    refine hl_take_np 5 (by kernel_rfl) (by kernel_rfl) rfl (by kernel_rfl) hs0 (v := ?_) ?_ ?_
                    rotate_left
                    · (rintro x hx; have q0 := hx.cell k0; have q1 := hx.cell k1; have q2 := hx.cell k2; have q3 := hx.cell k3; have q4 := hx.cell k4; have q5 := hx.cell k5; have q6 := hx.cell k6; have q7 := hx.cell k7; have r0 := hx.cell e0; have r1 := hx.cell e1; have r2 := hx.cell e2; have r3 := hx.cell e3; have r4 := hx.cell e4; clear hx; go_simp; try rfl)
                    simp only [Act.put, List.setIfInBounds_toArray, List.set_cons_zero, List.set_cons_succ]
                    refine hl_take_np 6 (by kernel_rfl) (by kernel_rfl) rfl (by kernel_rfl) hs0 (v := ?_) ?_ ?_
                    rotate_left
                    · (rintro x hx; have q0 := hx.cell k0; have q1 := hx.cell k1; have q2 := hx.cell k2; have q3 := hx.cell k3; have q4 := hx.cell k4; have q5 := hx.cell k5; have q6 := hx.cell k6; have q7 := hx.cell k7; have r0 := hx.cell e0; have r1 := hx.cell e1; have r2 := hx.cell e2; have r3 := hx.cell e3; have r4 := hx.cell e4; clear hx; go_simp; try rfl)
                    simp only [Act.put, List.setIfInBounds_toArray, List.set_cons_zero, List.set_cons_succ]
                    refine hl_take_np 7 (by kernel_rfl) (by kernel_rfl) rfl (by kernel_rfl) hs0 (v := ?_) ?_ ?_
                    rotate_left
                    · (rintro x hx; have q0 := hx.cell k0; have q1 := hx.cell k1; have q2 := hx.cell k2; have q3 := hx.cell k3; have q4 := hx.cell k4; have q5 := hx.cell k5; have q6 := hx.cell k6; have q7 := hx.cell k7; have r0 := hx.cell e0; have r1 := hx.cell e1; have r2 := hx.cell e2; have r3 := hx.cell e3; have r4 := hx.cell e4; clear hx; go_simp; try rfl)
                    simp only [Act.put, List.setIfInBounds_toArray, List.set_cons_zero, List.set_cons_succ]
                    refine hl_take_np 8 (by kernel_rfl) (by kernel_rfl) rfl (by kernel_rfl) hs0 (v := ?_) ?_ ?_
                    rotate_left
                    · (rintro x hx; have q0 := hx.cell k0; have q1 := hx.cell k1; have q2 := hx.cell k2; have q3 := hx.cell k3; have q4 := hx.cell k4; have q5 := hx.cell k5; have q6 := hx.cell k6; have q7 := hx.cell k7; have r0 := hx.cell e0; have r1 := hx.cell e1; have r2 := hx.cell e2; have r3 := hx.cell e3; have r4 := hx.cell e4; clear hx; go_simp; try rfl)
                    simp only [Act.put, List.setIfInBounds_toArray, List.set_cons_zero, List.set_cons_succ]
                    refine hl_take_np 9 (by kernel_rfl) (by kernel_rfl) rfl (by kernel_rfl) hs0 (v := ?_) ?_ ?_
                    rotate_left
                    · (rintro x hx; have q0 := hx.cell k0; have q1 := hx.cell k1; have q2 := hx.cell k2; have q3 := hx.cell k3; have q4 := hx.cell k4; have q5 := hx.cell k5; have q6 := hx.cell k6; have q7 := hx.cell k7; have r0 := hx.cell e0; have r1 := hx.cell e1; have r2 := hx.cell e2; have r3 := hx.cell e3; have r4 := hx.cell e4; clear hx; go_simp; try rfl)
                    simp only [Act.put, List.setIfInBounds_toArray, List.set_cons_zero, List.set_cons_succ]
                    refine hl_take_np 10 (by kernel_rfl) (by kernel_rfl) rfl (by kernel_rfl) hs0 (v := ?_) ?_ ?_
                    rotate_left
                    · (rintro x hx; have q0 := hx.cell k0; have q1 := hx.cell k1; have q2 := hx.cell k2; have q3 := hx.cell k3; have q4 := hx.cell k4; have q5 := hx.cell k5; have q6 := hx.cell k6; have q7 := hx.cell k7; have r0 := hx.cell e0; have r1 := hx.cell e1; have r2 := hx.cell e2; have r3 := hx.cell e3; have r4 := hx.cell e4; clear hx; go_simp; try rfl)
                    simp only [Act.put, List.setIfInBounds_toArray, List.set_cons_zero, List.set_cons_succ]
                    refine hl_stepW 11 (by kernel_rfl) rfl (by kernel_rfl) ?_
                    intro K hK
                    go_simp
                    refine (HSE.out _ hs0).mono ?_
                    rintro e0 w6 ⟨rfl, hga⟩
                    have hs1 : G wz w6 := hs0.trans hga
                    refine hK _ _ (fun _ => hs1) ?_
                    clear hK
                    simp only [Act.put, List.setIfInBounds_toArray, List.set_cons_zero, List.set_cons_succ]
                    refine hl_take_np 12 (by kernel_rfl) (by kernel_rfl) rfl (by kernel_rfl) hs1 (v := ?_) ?_ ?_
                    rotate_left
                    · (rintro x hx; have q3 := hx.cell k4; have q6 := hx.cell k6; have q7 := hx.cell k7; clear hx; go_simp; try rfl)
                    simp only [Act.put, List.setIfInBounds_toArray, List.set_cons_zero, List.set_cons_succ]
                    refine hl_take_np 13 (by kernel_rfl) (by kernel_rfl) rfl (by kernel_rfl) hs1 (v := ?_) ?_ ?_
                    rotate_left
                    · (rintro x hx; have q3 := hx.cell k4; have q6 := hx.cell k6; have q7 := hx.cell k7; clear hx; go_simp; try rfl)
                    simp only [Act.put, List.setIfInBounds_toArray, List.set_cons_zero, List.set_cons_succ]
                    refine hl_take_np 14 (by kernel_rfl) (by kernel_rfl) rfl (by kernel_rfl) hs1 (v := ?_) ?_ ?_
                    rotate_left
                    · (rintro x hx; have q3 := hx.cell k4; have q6 := hx.cell k6; have q7 := hx.cell k7; clear hx; go_simp; try rfl)
                    simp only [Act.put, List.setIfInBounds_toArray, List.set_cons_zero, List.set_cons_succ]
                    refine hl_take_np 15 (by kernel_rfl) (by kernel_rfl) rfl (by kernel_rfl) hs1 (v := ?_) ?_ ?_
                    rotate_left
                    · (rintro x hx; have q3 := hx.cell k4; have q6 := hx.cell k6; have q7 := hx.cell k7; clear hx; go_simp; try rfl)
                    simp only [Act.put, List.setIfInBounds_toArray, List.set_cons_zero, List.set_cons_succ]
                    refine hl_take_np 16 (by kernel_rfl) (by kernel_rfl) rfl (by kernel_rfl) hs1 (v := ?_) ?_ ?_
                    rotate_left
                    · (rintro x hx; have q3 := hx.cell k4; have q6 := hx.cell k6; have q7 := hx.cell k7; clear hx; go_simp; try rfl)
                    simp only [Act.put, List.setIfInBounds_toArray, List.set_cons_zero, List.set_cons_succ]
                    refine hl_take_np 17 (by kernel_rfl) (by kernel_rfl) rfl (by kernel_rfl) hs1 (v := ?_) ?_ ?_
                    rotate_left
                    · (rintro x hx; have q3 := hx.cell k4; have q6 := hx.cell k6; have q7 := hx.cell k7; clear hx; go_simp; try rfl)
                    simp only [Act.put, List.setIfInBounds_toArray, List.set_cons_zero, List.set_cons_succ]
                    refine hl_take_np 18 (by kernel_rfl) (by kernel_rfl) rfl (by kernel_rfl) hs1 (v := ?_) ?_ ?_
                    rotate_left
                    · (rintro x hx; have q3 := hx.cell k4; have q6 := hx.cell k6; have q7 := hx.cell k7; clear hx; go_simp; try rfl)
                    simp only [Act.put, List.setIfInBounds_toArray, List.set_cons_zero, List.set_cons_succ]
                    refine hl_take_np 19 (by kernel_rfl) (by kernel_rfl) rfl (by kernel_rfl) hs1 (v := ?_) ?_ ?_
                    rotate_left
                    · (rintro x hx; have q3 := hx.cell k4; have q6 := hx.cell k6; have q7 := hx.cell k7; clear hx; go_simp; try rfl)
                    simp only [Act.put, List.setIfInBounds_toArray, List.set_cons_zero, List.set_cons_succ]
                    refine hl_take_np 20 (by kernel_rfl) (by kernel_rfl) rfl (by kernel_rfl) hs1 (v := ?_) ?_ ?_
                    rotate_left
                    · (rintro x hx; have q3 := hx.cell k4; have q6 := hx.cell k6; have q7 := hx.cell k7; clear hx; go_simp; try rfl)
                    simp only [Act.put, List.setIfInBounds_toArray, List.set_cons_zero, List.set_cons_succ]
                    refine hl_take_np 21 (by kernel_rfl) (by kernel_rfl) rfl (by kernel_rfl) hs1 (v := ?_) ?_ ?_
                    rotate_left
                    · (rintro x hx; have q3 := hx.cell k4; have q6 := hx.cell k6; have q7 := hx.cell k7; clear hx; go_simp; try rfl)
                    simp only [Act.put, List.setIfInBounds_toArray, List.set_cons_zero, List.set_cons_succ]
                    refine hl_take_np 22 (by kernel_rfl) (by kernel_rfl) rfl (by kernel_rfl) hs1 (v := ?_) ?_ ?_
                    rotate_left
                    · (rintro x hx; have q3 := hx.cell k4; have q6 := hx.cell k6; have q7 := hx.cell k7; clear hx; go_simp; try rfl)
                    simp only [Act.put, List.setIfInBounds_toArray, List.set_cons_zero, List.set_cons_succ]
                    refine hl_take_np 23 (by kernel_rfl) (by kernel_rfl) rfl (by kernel_rfl) hs1 (v := ?_) ?_ ?_
                    rotate_left
                    · (rintro x hx; have q3 := hx.cell k4; have q6 := hx.cell k6; have q7 := hx.cell k7; clear hx; go_simp; try rfl)
                    simp only [Act.put, List.setIfInBounds_toArray, List.set_cons_zero, List.set_cons_succ]
                    refine hl_take_np 24 (by kernel_rfl) (by kernel_rfl) rfl (by kernel_rfl) hs1 (v := ?_) ?_ ?_
                    rotate_left
                    · (rintro x hx; have q3 := hx.cell k4; have q6 := hx.cell k6; have q7 := hx.cell k7; clear hx; go_simp; try rfl)
                    simp only [Act.put, List.setIfInBounds_toArray, List.set_cons_zero, List.set_cons_succ]
                    refine hl_take_np 25 (by kernel_rfl) (by kernel_rfl) rfl (by kernel_rfl) hs1 (v := ?_) ?_ ?_
                    rotate_left
                    · (rintro x hx; have q3 := hx.cell k4; have q6 := hx.cell k6; have q7 := hx.cell k7; clear hx; go_simp; try rfl)
                    simp only [Act.put, List.setIfInBounds_toArray, List.set_cons_zero, List.set_cons_succ]
                    refine hl_take_np 26 (by kernel_rfl) (by kernel_rfl) rfl (by kernel_rfl) hs1 (v := ?_) ?_ ?_
                    rotate_left
                    · (rintro x hx; have q3 := hx.cell k4; have q6 := hx.cell k6; have q7 := hx.cell k7; clear hx; go_simp; try rfl)
                    simp only [Act.put, List.setIfInBounds_toArray, List.set_cons_zero, List.set_cons_succ]
                    refine hl_take_np 27 (by kernel_rfl) (by kernel_rfl) rfl (by kernel_rfl) hs1 (v := ?_) ?_ ?_
                    rotate_left
                    · (rintro x hx; have q3 := hx.cell k4; have q6 := hx.cell k6; have q7 := hx.cell k7; clear hx; go_simp; try rfl)
                    simp only [Act.put, List.setIfInBounds_toArray, List.set_cons_zero, List.set_cons_succ]
                    refine hl_take_np 28 (by kernel_rfl) (by kernel_rfl) rfl (by kernel_rfl) hs1 (v := ?_) ?_ ?_
                    rotate_left
                    · (rintro x hx; have q3 := hx.cell k4; have q6 := hx.cell k6; have q7 := hx.cell k7; clear hx; go_simp; try rfl)
                    simp only [Act.put, List.setIfInBounds_toArray, List.set_cons_zero, List.set_cons_succ]
                    refine hl_take_np 29 (by kernel_rfl) (by kernel_rfl) rfl (by kernel_rfl) hs1 (v := ?_) ?_ ?_
                    rotate_left
                    · (rintro x hx; have q3 := hx.cell k4; have q6 := hx.cell k6; have q7 := hx.cell k7; clear hx; go_simp; try rfl)
                    simp only [Act.put, List.setIfInBounds_toArray, List.set_cons_zero, List.set_cons_succ]
                    refine hl_take_np 30 (by kernel_rfl) (by kernel_rfl) rfl (by kernel_rfl) hs1 (v := ?_) ?_ ?_
                    rotate_left
                    · (rintro x hx; have q3 := hx.cell k4; have q6 := hx.cell k6; have q7 := hx.cell k7; clear hx; go_simp; try rfl)
                    simp only [Act.put, List.setIfInBounds_toArray, List.set_cons_zero, List.set_cons_succ]
                    refine hl_take_np 31 (by kernel_rfl) (by kernel_rfl) rfl (by kernel_rfl) hs1 (v := ?_) ?_ ?_
                    rotate_left
                    · (rintro x hx; have q3 := hx.cell k4; have q6 := hx.cell k6; have q7 := hx.cell k7; clear hx; go_simp; try rfl)
                    simp only [Act.put, List.setIfInBounds_toArray, List.set_cons_zero, List.set_cons_succ]
                    refine hl_take_np 32 (by kernel_rfl) (by kernel_rfl) rfl (by kernel_rfl) hs1 (v := ?_) ?_ ?_
                    rotate_left
                    · (rintro x hx; have q3 := hx.cell k4; have q6 := hx.cell k6; have q7 := hx.cell k7; clear hx; go_simp; try rfl)
                    simp only [Act.put, List.setIfInBounds_toArray, List.set_cons_zero, List.set_cons_succ]
                    refine hl_done (by kernel_rfl) ?_ _
                    refine NoPanic.normal ?_
                    have HG7 := Lib.hid (HGZ.out.trans hs1)
                    clear hs0 hs1 hga k0 k1 k2 k3 k4 k5 k6 k7 e0 e1 e2 e3 e4 HSE
                    go_wp2_with fail
                    go_roundw
                    case rel => exact ⟨j + 1 + 1, kk + 1, mm, by go_num, rfl, by go_num, by omega, HK2, by omega, HG7⟩
                    case measure => simp [intOf]; omega
                · rw [heq] at d7
                  clear heq
                  have hn1 : ¬ xa < xa := by omega
                  clear HPV
                  rcases hrv3 with rfl | ⟨rfl, hbad, hq⟩
                  · as_aux_lemma =>
                      refine region_hl (fun w' => G wy w') 99 60 (by kernel_rfl) rfl ?_
                      simp only [List.replicate_succ, List.replicate_zero]
                      have hs0 : (fun w' : World => G wy w') wy.drew := (G.refl wy).drew
                      refine hl_take_np 0 (by kernel_rfl) (by kernel_rfl) rfl (by kernel_rfl) hs0 (v := ?_) ?_ ?_
                      rotate_left
                      · (rintro x hx; have q0 := hx.cell k0; have q6 := hx.cell k6; have q7 := hx.cell k7; have r0 := hx.cell d0; have r6 := hx.cell d6; have r7 := hx.cell d7; clear hx; go_simp; try rfl)
                      simp only [Act.put, List.setIfInBounds_toArray, List.set_cons_zero, List.set_cons_succ]
                      refine hl_take_np 1 (by kernel_rfl) (by kernel_rfl) rfl (by kernel_rfl) hs0 (v := ?_) ?_ ?_
                      rotate_left
                      · (rintro x hx; have q0 := hx.cell k0; have q6 := hx.cell k6; have q7 := hx.cell k7; have r0 := hx.cell d0; have r6 := hx.cell d6; have r7 := hx.cell d7; clear hx; go_simp; try rfl)
                      simp only [Act.put, List.setIfInBounds_toArray, List.set_cons_zero, List.set_cons_succ]
                      refine hl_take_np 2 (by kernel_rfl) (by kernel_rfl) rfl (by kernel_rfl) hs0 (v := ?_) ?_ ?_
                      rotate_left
                      · (rintro x hx; have q0 := hx.cell k0; have q6 := hx.cell k6; have q7 := hx.cell k7; have r0 := hx.cell d0; have r6 := hx.cell d6; have r7 := hx.cell d7; clear hx; go_simp; try rfl)
                      simp only [Act.put, List.setIfInBounds_toArray, List.set_cons_zero, List.set_cons_succ]
                      refine hl_take_np 3 (by kernel_rfl) (by kernel_rfl) rfl (by kernel_rfl) hs0 (v := ?_) ?_ ?_
                      rotate_left
                      · (rintro x hx; have q0 := hx.cell k0; have q6 := hx.cell k6; have q7 := hx.cell k7; have r0 := hx.cell d0; have r6 := hx.cell d6; have r7 := hx.cell d7; clear hx; go_simp; try rfl)
                      simp only [Act.put, List.setIfInBounds_toArray, List.set_cons_zero, List.set_cons_succ]
                      refine hl_take_np 4 (by kernel_rfl) (by kernel_rfl) rfl (by kernel_rfl) hs0 (v := ?_) ?_ ?_
                      rotate_left
                      · (rintro x hx; have q0 := hx.cell k0; have q6 := hx.cell k6; have q7 := hx.cell k7; have r0 := hx.cell d0; have r6 := hx.cell d6; have r7 := hx.cell d7; clear hx; go_simp; try rfl)
                      simp only [Act.put, List.setIfInBounds_toArray, List.set_cons_zero, List.set_cons_succ]
                      refine hl_take_np 5 (by kernel_rfl) (by kernel_rfl) rfl (by kernel_rfl) hs0 (v := ?_) ?_ ?_
                      rotate_left
                      · (rintro x hx; have q0 := hx.cell k0; have q6 := hx.cell k6; have q7 := hx.cell k7; have r0 := hx.cell d0; have r6 := hx.cell d6; have r7 := hx.cell d7; clear hx; go_simp; try rfl)
                      simp only [Act.put, List.setIfInBounds_toArray, List.set_cons_zero, List.set_cons_succ]
                      refine hl_take_np 6 (by kernel_rfl) (by kernel_rfl) rfl (by kernel_rfl) hs0 (v := ?_) ?_ ?_
                      rotate_left
                      · (rintro x hx; have q0 := hx.cell k0; have q6 := hx.cell k6; have q7 := hx.cell k7; have r0 := hx.cell d0; have r6 := hx.cell d6; have r7 := hx.cell d7; clear hx; go_simp; try rfl)
                      simp only [Act.put, List.setIfInBounds_toArray, List.set_cons_zero, List.set_cons_succ]
                      refine hl_take_np 7 (by kernel_rfl) (by kernel_rfl) rfl (by kernel_rfl) hs0 (v := ?_) ?_ ?_
                      rotate_left
                      · (rintro x hx; have q0 := hx.cell k0; have q6 := hx.cell k6; have q7 := hx.cell k7; have r0 := hx.cell d0; have r6 := hx.cell d6; have r7 := hx.cell d7; clear hx; go_simp; try rfl)
                      simp only [Act.put, List.setIfInBounds_toArray, List.set_cons_zero, List.set_cons_succ]
                      refine hl_take_np 8 (by kernel_rfl) (by kernel_rfl) rfl (by kernel_rfl) hs0 (v := ?_) ?_ ?_
                      rotate_left
                      · (rintro x hx; have q0 := hx.cell k0; have q6 := hx.cell k6; have q7 := hx.cell k7; have r0 := hx.cell d0; have r6 := hx.cell d6; have r7 := hx.cell d7; clear hx; go_simp; try rfl)
                      simp only [Act.put, List.setIfInBounds_toArray, List.set_cons_zero, List.set_cons_succ]
                      refine hl_take_np 9 (by kernel_rfl) (by kernel_rfl) rfl (by kernel_rfl) hs0 (v := ?_) ?_ ?_
                      rotate_left
                      · (rintro x hx; have q0 := hx.cell k0; have q6 := hx.cell k6; have q7 := hx.cell k7; have r0 := hx.cell d0; have r6 := hx.cell d6; have r7 := hx.cell d7; clear hx; go_simp; try rfl)
                      simp only [Act.put, List.setIfInBounds_toArray, List.set_cons_zero, List.set_cons_succ]
                      refine hl_take_np 10 (by kernel_rfl) (by kernel_rfl) rfl (by kernel_rfl) hs0 (v := ?_) ?_ ?_
                      rotate_left
                      · (rintro x hx; have q0 := hx.cell k0; have q6 := hx.cell k6; have q7 := hx.cell k7; have r0 := hx.cell d0; have r6 := hx.cell d6; have r7 := hx.cell d7; clear hx; go_simp; try rfl)
                      simp only [Act.put, List.setIfInBounds_toArray, List.set_cons_zero, List.set_cons_succ]
                      refine hl_take_np 11 (by kernel_rfl) (by kernel_rfl) rfl (by kernel_rfl) hs0 (v := ?_) ?_ ?_
                      rotate_left
                      · (rintro x hx; have q0 := hx.cell k0; have q6 := hx.cell k6; have q7 := hx.cell k7; have r0 := hx.cell d0; have r6 := hx.cell d6; have r7 := hx.cell d7; clear hx; go_simp; try rfl)
                      simp only [Act.put, List.setIfInBounds_toArray, List.set_cons_zero, List.set_cons_succ]
                      refine hl_take_np 12 (by kernel_rfl) (by kernel_rfl) rfl (by kernel_rfl) hs0 (v := ?_) ?_ ?_
                      rotate_left
                      · (rintro x hx; have q0 := hx.cell k0; have q6 := hx.cell k6; have q7 := hx.cell k7; have r0 := hx.cell d0; have r6 := hx.cell d6; have r7 := hx.cell d7; clear hx; go_simp; try rfl)
                      simp only [Act.put, List.setIfInBounds_toArray, List.set_cons_zero, List.set_cons_succ]
                      refine hl_take_np 13 (by kernel_rfl) (by kernel_rfl) rfl (by kernel_rfl) hs0 (v := ?_) ?_ ?_
                      rotate_left
                      · (rintro x hx; have q0 := hx.cell k0; have q6 := hx.cell k6; have q7 := hx.cell k7; have r0 := hx.cell d0; have r6 := hx.cell d6; have r7 := hx.cell d7; clear hx; go_simp; try rfl)
                      simp only [Act.put, List.setIfInBounds_toArray, List.set_cons_zero, List.set_cons_succ]
                      refine hl_take_np 14 (by kernel_rfl) (by kernel_rfl) rfl (by kernel_rfl) hs0 (v := ?_) ?_ ?_
                      rotate_left
                      · (rintro x hx; have q0 := hx.cell k0; have q6 := hx.cell k6; have q7 := hx.cell k7; have r0 := hx.cell d0; have r6 := hx.cell d6; have r7 := hx.cell d7; clear hx; go_simp; try rfl)
                      simp only [Act.put, List.setIfInBounds_toArray, List.set_cons_zero, List.set_cons_succ]
                      refine hl_take_np 15 (by kernel_rfl) (by kernel_rfl) rfl (by kernel_rfl) hs0 (v := ?_) ?_ ?_
                      rotate_left
                      · (rintro x hx; have q0 := hx.cell k0; have q6 := hx.cell k6; have q7 := hx.cell k7; have r0 := hx.cell d0; have r6 := hx.cell d6; have r7 := hx.cell d7; clear hx; go_simp; try rfl)
                      simp only [Act.put, List.setIfInBounds_toArray, List.set_cons_zero, List.set_cons_succ]
                      refine hl_take_np 16 (by kernel_rfl) (by kernel_rfl) rfl (by kernel_rfl) hs0 (v := ?_) ?_ ?_
                      rotate_left
                      · (rintro x hx; have q0 := hx.cell k0; have q6 := hx.cell k6; have q7 := hx.cell k7; have r0 := hx.cell d0; have r6 := hx.cell d6; have r7 := hx.cell d7; clear hx; go_simp; try rfl)
                      simp only [Act.put, List.setIfInBounds_toArray, List.set_cons_zero, List.set_cons_succ]
                      refine hl_take_np 17 (by kernel_rfl) (by kernel_rfl) rfl (by kernel_rfl) hs0 (v := ?_) ?_ ?_
                      rotate_left
                      · (rintro x hx; have q0 := hx.cell k0; have q6 := hx.cell k6; have q7 := hx.cell k7; have r0 := hx.cell d0; have r6 := hx.cell d6; have r7 := hx.cell d7; clear hx; go_simp; try rfl)
                      simp only [Act.put, List.setIfInBounds_toArray, List.set_cons_zero, List.set_cons_succ]
                      refine hl_take_np 18 (by kernel_rfl) (by kernel_rfl) rfl (by kernel_rfl) hs0 (v := ?_) ?_ ?_
                      rotate_left
                      · (rintro x hx; have q0 := hx.cell k0; have q6 := hx.cell k6; have q7 := hx.cell k7; have r0 := hx.cell d0; have r6 := hx.cell d6; have r7 := hx.cell d7; clear hx; go_simp; try rfl)
                      simp only [Act.put, List.setIfInBounds_toArray, List.set_cons_zero, List.set_cons_succ]
                      refine hl_take_np 19 (by kernel_rfl) (by kernel_rfl) rfl (by kernel_rfl) hs0 (v := ?_) ?_ ?_
                      rotate_left
                      · (rintro x hx; have q0 := hx.cell k0; have q6 := hx.cell k6; have q7 := hx.cell k7; have r0 := hx.cell d0; have r6 := hx.cell d6; have r7 := hx.cell d7; clear hx; go_simp; try rfl)
                      simp only [Act.put, List.setIfInBounds_toArray, List.set_cons_zero, List.set_cons_succ]
                      refine hl_take_np 20 (by kernel_rfl) (by kernel_rfl) rfl (by kernel_rfl) hs0 (v := ?_) ?_ ?_
                      rotate_left
                      · (rintro x hx; have q0 := hx.cell k0; have q6 := hx.cell k6; have q7 := hx.cell k7; have r0 := hx.cell d0; have r6 := hx.cell d6; have r7 := hx.cell d7; clear hx; go_simp; try rfl)
                      simp only [Act.put, List.setIfInBounds_toArray, List.set_cons_zero, List.set_cons_succ]
                      refine hl_take_np 21 (by kernel_rfl) (by kernel_rfl) rfl (by kernel_rfl) hs0 (v := ?_) ?_ ?_
                      rotate_left
                      · (rintro x hx; have q0 := hx.cell k0; have q6 := hx.cell k6; have q7 := hx.cell k7; have r0 := hx.cell d0; have r6 := hx.cell d6; have r7 := hx.cell d7; clear hx; go_simp; try rfl)
                      simp only [Act.put, List.setIfInBounds_toArray, List.set_cons_zero, List.set_cons_succ]
                      refine hl_take_np 22 (by kernel_rfl) (by kernel_rfl) rfl (by kernel_rfl) hs0 (v := ?_) ?_ ?_
                      rotate_left
                      · (rintro x hx; have q0 := hx.cell k0; have q6 := hx.cell k6; have q7 := hx.cell k7; have r0 := hx.cell d0; have r6 := hx.cell d6; have r7 := hx.cell d7; clear hx; go_simp; try rfl)
                      simp only [Act.put, List.setIfInBounds_toArray, List.set_cons_zero, List.set_cons_succ]
                      refine hl_take_np 23 (by kernel_rfl) (by kernel_rfl) rfl (by kernel_rfl) hs0 (v := ?_) ?_ ?_
                      rotate_left
                      · (rintro x hx; have q0 := hx.cell k0; have q6 := hx.cell k6; have q7 := hx.cell k7; have r0 := hx.cell d0; have r6 := hx.cell d6; have r7 := hx.cell d7; clear hx; go_simp; try rfl)
                      simp only [Act.put, List.setIfInBounds_toArray, List.set_cons_zero, List.set_cons_succ]
                      refine hl_take_np 24 (by kernel_rfl) (by kernel_rfl) rfl (by kernel_rfl) hs0 (v := ?_) ?_ ?_
                      rotate_left
                      · (rintro x hx; have q0 := hx.cell k0; have q6 := hx.cell k6; have q7 := hx.cell k7; have r0 := hx.cell d0; have r6 := hx.cell d6; have r7 := hx.cell d7; clear hx; go_simp; try rfl)
                      simp only [Act.put, List.setIfInBounds_toArray, List.set_cons_zero, List.set_cons_succ]
                      refine hl_take_np 25 (by kernel_rfl) (by kernel_rfl) rfl (by kernel_rfl) hs0 (v := ?_) ?_ ?_
                      rotate_left
                      · (rintro x hx; have q0 := hx.cell k0; have q6 := hx.cell k6; have q7 := hx.cell k7; have r0 := hx.cell d0; have r6 := hx.cell d6; have r7 := hx.cell d7; clear hx; go_simp; try rfl)
                      simp only [Act.put, List.setIfInBounds_toArray, List.set_cons_zero, List.set_cons_succ]
                      refine hl_take_np 26 (by kernel_rfl) (by kernel_rfl) rfl (by kernel_rfl) hs0 (v := ?_) ?_ ?_
                      rotate_left
                      · (rintro x hx; have q0 := hx.cell k0; have q6 := hx.cell k6; have q7 := hx.cell k7; have r0 := hx.cell d0; have r6 := hx.cell d6; have r7 := hx.cell d7; clear hx; go_simp; try rfl)
                      simp only [Act.put, List.setIfInBounds_toArray, List.set_cons_zero, List.set_cons_succ]
                      refine hl_take_np 27 (by kernel_rfl) (by kernel_rfl) rfl (by kernel_rfl) hs0 (v := ?_) ?_ ?_
                      rotate_left
                      · (rintro x hx; have q0 := hx.cell k0; have q6 := hx.cell k6; have q7 := hx.cell k7; have r0 := hx.cell d0; have r6 := hx.cell d6; have r7 := hx.cell d7; clear hx; go_simp; try rfl)
                      simp only [Act.put, List.setIfInBounds_toArray, List.set_cons_zero, List.set_cons_succ]
                      refine hl_take_np 28 (by kernel_rfl) (by kernel_rfl) rfl (by kernel_rfl) hs0 (v := ?_) ?_ ?_
                      rotate_left
                      · (rintro x hx; have q0 := hx.cell k0; have q6 := hx.cell k6; have q7 := hx.cell k7; have r0 := hx.cell d0; have r6 := hx.cell d6; have r7 := hx.cell d7; clear hx; go_simp; try rfl)
                      simp only [Act.put, List.setIfInBounds_toArray, List.set_cons_zero, List.set_cons_succ]
                      refine hl_take_np 29 (by kernel_rfl) (by kernel_rfl) rfl (by kernel_rfl) hs0 (v := ?_) ?_ ?_
                      rotate_left
                      · (rintro x hx; have q0 := hx.cell k0; have q6 := hx.cell k6; have q7 := hx.cell k7; have r0 := hx.cell d0; have r6 := hx.cell d6; have r7 := hx.cell d7; clear hx; go_simp; try rfl)
                      simp only [Act.put, List.setIfInBounds_toArray, List.set_cons_zero, List.set_cons_succ]
                      refine hl_skip_np 30 (by kernel_rfl) (by kernel_rfl) rfl (by kernel_rfl) hs0 ?_
                      simp only [Act.put, List.setIfInBounds_toArray, List.set_cons_zero, List.set_cons_succ]
                      refine hl_skip_np 31 (by kernel_rfl) (by kernel_rfl) rfl (by kernel_rfl) hs0 ?_
                      simp only [Act.put, List.setIfInBounds_toArray, List.set_cons_zero, List.set_cons_succ]
                      refine hl_skip_np 32 (by kernel_rfl) (by kernel_rfl) rfl (by kernel_rfl) hs0 ?_
                      simp only [Act.put, List.setIfInBounds_toArray, List.set_cons_zero, List.set_cons_succ]
                      refine hl_take_np 33 (by kernel_rfl) (by kernel_rfl) rfl (by kernel_rfl) hs0 (v := ?_) ?_ ?_
                      rotate_left
                      · (rintro x hx; have q0 := hx.cell k0; have q6 := hx.cell k6; have q7 := hx.cell k7; have r0 := hx.cell d0; have r6 := hx.cell d6; have r7 := hx.cell d7; clear hx; go_simp; try rfl)
                      simp only [Act.put, List.setIfInBounds_toArray, List.set_cons_zero, List.set_cons_succ]
                      refine hl_take_np 34 (by kernel_rfl) (by kernel_rfl) rfl (by kernel_rfl) hs0 (v := ?_) ?_ ?_
                      rotate_left
                      · (rintro x hx; have q0 := hx.cell k0; have q6 := hx.cell k6; have q7 := hx.cell k7; have r0 := hx.cell d0; have r6 := hx.cell d6; have r7 := hx.cell d7; clear hx; go_simp; try rfl)
                      simp only [Act.put, List.setIfInBounds_toArray, List.set_cons_zero, List.set_cons_succ]
                      refine hl_take_np 35 (by kernel_rfl) (by kernel_rfl) rfl (by kernel_rfl) hs0 (v := ?_) ?_ ?_
                      rotate_left
                      · (rintro x hx; have q0 := hx.cell k0; have q6 := hx.cell k6; have q7 := hx.cell k7; have r0 := hx.cell d0; have r6 := hx.cell d6; have r7 := hx.cell d7; clear hx; go_simp; try rfl)
                      simp only [Act.put, List.setIfInBounds_toArray, List.set_cons_zero, List.set_cons_succ]
                      refine hl_take_np 36 (by kernel_rfl) (by kernel_rfl) rfl (by kernel_rfl) hs0 (v := ?_) ?_ ?_
                      rotate_left
                      · (rintro x hx; have q0 := hx.cell k0; have q6 := hx.cell k6; have q7 := hx.cell k7; have r0 := hx.cell d0; have r6 := hx.cell d6; have r7 := hx.cell d7; clear hx; go_simp; try rfl)
                      simp only [Act.put, List.setIfInBounds_toArray, List.set_cons_zero, List.set_cons_succ]
                      refine hl_take_np 37 (by kernel_rfl) (by kernel_rfl) rfl (by kernel_rfl) hs0 (v := ?_) ?_ ?_
                      rotate_left
                      · (rintro x hx; have q0 := hx.cell k0; have q6 := hx.cell k6; have q7 := hx.cell k7; have r0 := hx.cell d0; have r6 := hx.cell d6; have r7 := hx.cell d7; clear hx; go_simp; try rfl)
                      simp only [Act.put, List.setIfInBounds_toArray, List.set_cons_zero, List.set_cons_succ]
                      refine hl_take_np 38 (by kernel_rfl) (by kernel_rfl) rfl (by kernel_rfl) hs0 (v := ?_) ?_ ?_
                      rotate_left
                      · (rintro x hx; have q0 := hx.cell k0; have q6 := hx.cell k6; have q7 := hx.cell k7; have r0 := hx.cell d0; have r6 := hx.cell d6; have r7 := hx.cell d7; clear hx; go_simp; try rfl)
                      simp only [Act.put, List.setIfInBounds_toArray, List.set_cons_zero, List.set_cons_succ]
                      refine hl_take_np 39 (by kernel_rfl) (by kernel_rfl) rfl (by kernel_rfl) hs0 (v := ?_) ?_ ?_
                      rotate_left
                      · (rintro x hx; have q0 := hx.cell k0; have q6 := hx.cell k6; have q7 := hx.cell k7; have r0 := hx.cell d0; have r6 := hx.cell d6; have r7 := hx.cell d7; clear hx; go_simp; try rfl)
                      simp only [Act.put, List.setIfInBounds_toArray, List.set_cons_zero, List.set_cons_succ]
                      refine hl_take_np 40 (by kernel_rfl) (by kernel_rfl) rfl (by kernel_rfl) hs0 (v := ?_) ?_ ?_
                      rotate_left
                      · (rintro x hx; have q0 := hx.cell k0; have q6 := hx.cell k6; have q7 := hx.cell k7; have r0 := hx.cell d0; have r6 := hx.cell d6; have r7 := hx.cell d7; clear hx; go_simp; try rfl)
                      simp only [Act.put, List.setIfInBounds_toArray, List.set_cons_zero, List.set_cons_succ]
                      refine hl_take_np 41 (by kernel_rfl) (by kernel_rfl) rfl (by kernel_rfl) hs0 (v := ?_) ?_ ?_
                      rotate_left
                      · (rintro x hx; have q0 := hx.cell k0; have q6 := hx.cell k6; have q7 := hx.cell k7; have r0 := hx.cell d0; have r6 := hx.cell d6; have r7 := hx.cell d7; clear hx; go_simp; try rfl)
                      simp only [Act.put, List.setIfInBounds_toArray, List.set_cons_zero, List.set_cons_succ]
                      refine hl_skip_np 42 (by kernel_rfl) (by kernel_rfl) rfl (by kernel_rfl) hs0 ?_
                      simp only [Act.put, List.setIfInBounds_toArray, List.set_cons_zero, List.set_cons_succ]
                      refine hl_skip_np 43 (by kernel_rfl) (by kernel_rfl) rfl (by kernel_rfl) hs0 ?_
                      simp only [Act.put, List.setIfInBounds_toArray, List.set_cons_zero, List.set_cons_succ]
                      refine hl_take_np 44 (by kernel_rfl) (by kernel_rfl) rfl (by kernel_rfl) hs0 (v := ?_) ?_ ?_
                      rotate_left
                      · (rintro x hx; have q0 := hx.cell k0; have q6 := hx.cell k6; have q7 := hx.cell k7; have r0 := hx.cell d0; have r6 := hx.cell d6; have r7 := hx.cell d7; clear hx; go_simp; try rfl)
                      simp only [Act.put, List.setIfInBounds_toArray, List.set_cons_zero, List.set_cons_succ]
                      refine hl_take_np 45 (by kernel_rfl) (by kernel_rfl) rfl (by kernel_rfl) hs0 (v := ?_) ?_ ?_
                      rotate_left
                      · (rintro x hx; have q0 := hx.cell k0; have q6 := hx.cell k6; have q7 := hx.cell k7; have r0 := hx.cell d0; have r6 := hx.cell d6; have r7 := hx.cell d7; clear hx; go_simp; try rfl)
                      simp only [Act.put, List.setIfInBounds_toArray, List.set_cons_zero, List.set_cons_succ]
                      refine hl_skip_np 46 (by kernel_rfl) (by kernel_rfl) rfl (by kernel_rfl) hs0 ?_
                      simp only [Act.put, List.setIfInBounds_toArray, List.set_cons_zero, List.set_cons_succ]
                      refine hl_skip_np 47 (by kernel_rfl) (by kernel_rfl) rfl (by kernel_rfl) hs0 ?_
                      simp only [Act.put, List.setIfInBounds_toArray, List.set_cons_zero, List.set_cons_succ]
                      refine hl_skip_np 48 (by kernel_rfl) (by kernel_rfl) rfl (by kernel_rfl) hs0 ?_
                      simp only [Act.put, List.setIfInBounds_toArray, List.set_cons_zero, List.set_cons_succ]
                      refine hl_skip_np 49 (by kernel_rfl) (by kernel_rfl) rfl (by kernel_rfl) hs0 ?_
                      simp only [Act.put, List.setIfInBounds_toArray, List.set_cons_zero, List.set_cons_succ]
                      refine hl_skip_np 50 (by kernel_rfl) (by kernel_rfl) rfl (by kernel_rfl) hs0 ?_
                      simp only [Act.put, List.setIfInBounds_toArray, List.set_cons_zero, List.set_cons_succ]
                      refine hl_skip_np 51 (by kernel_rfl) (by kernel_rfl) rfl (by kernel_rfl) hs0 ?_
                      simp only [Act.put, List.setIfInBounds_toArray, List.set_cons_zero, List.set_cons_succ]
                      refine hl_skip_np 52 (by kernel_rfl) (by kernel_rfl) rfl (by kernel_rfl) hs0 ?_
                      simp only [Act.put, List.setIfInBounds_toArray, List.set_cons_zero, List.set_cons_succ]
                      refine hl_skip_np 53 (by kernel_rfl) (by kernel_rfl) rfl (by kernel_rfl) hs0 ?_
                      simp only [Act.put, List.setIfInBounds_toArray, List.set_cons_zero, List.set_cons_succ]
                      refine hl_skip_np 54 (by kernel_rfl) (by kernel_rfl) rfl (by kernel_rfl) hs0 ?_
                      simp only [Act.put, List.setIfInBounds_toArray, List.set_cons_zero, List.set_cons_succ]
                      refine hl_take_np 55 (by kernel_rfl) (by kernel_rfl) rfl (by kernel_rfl) hs0 (v := ?_) ?_ ?_
                      rotate_left
                      · (rintro x hx; have q0 := hx.cell k0; have q6 := hx.cell k6; have q7 := hx.cell k7; have r0 := hx.cell d0; have r6 := hx.cell d6; have r7 := hx.cell d7; clear hx; go_simp; try rfl)
                      simp only [Act.put, List.setIfInBounds_toArray, List.set_cons_zero, List.set_cons_succ]
                      refine hl_take_np 56 (by kernel_rfl) (by kernel_rfl) rfl (by kernel_rfl) hs0 (v := ?_) ?_ ?_
                      rotate_left
                      · (rintro x hx; have q0 := hx.cell k0; have q6 := hx.cell k6; have q7 := hx.cell k7; have r0 := hx.cell d0; have r6 := hx.cell d6; have r7 := hx.cell d7; clear hx; go_simp; try rfl)
                      simp only [Act.put, List.setIfInBounds_toArray, List.set_cons_zero, List.set_cons_succ]
                      refine hl_take_np 57 (by kernel_rfl) (by kernel_rfl) rfl (by kernel_rfl) hs0 (v := ?_) ?_ ?_
                      rotate_left
                      · (rintro x hx; have q0 := hx.cell k0; have q6 := hx.cell k6; have q7 := hx.cell k7; have r0 := hx.cell d0; have r6 := hx.cell d6; have r7 := hx.cell d7; clear hx; go_simp; try rfl)
                      simp only [Act.put, List.setIfInBounds_toArray, List.set_cons_zero, List.set_cons_succ]
                      refine hl_take_np 58 (by kernel_rfl) (by kernel_rfl) rfl (by kernel_rfl) hs0 (v := ?_) ?_ ?_
                      rotate_left
                      · (rintro x hx; have q0 := hx.cell k0; have q6 := hx.cell k6; have q7 := hx.cell k7; have r0 := hx.cell d0; have r6 := hx.cell d6; have r7 := hx.cell d7; clear hx; go_simp; try rfl)
                      simp only [Act.put, List.setIfInBounds_toArray, List.set_cons_zero, List.set_cons_succ]
                      refine hl_take_np 59 (by kernel_rfl) (by kernel_rfl) rfl (by kernel_rfl) hs0 (v := ?_) ?_ ?_
                      rotate_left
                      · (rintro x hx; have q0 := hx.cell k0; have q6 := hx.cell k6; have q7 := hx.cell k7; have r0 := hx.cell d0; have r6 := hx.cell d6; have r7 := hx.cell d7; clear hx; go_simp; try rfl)
                      simp only [Act.put, List.setIfInBounds_toArray, List.set_cons_zero, List.set_cons_succ]
                      refine hl_done (by kernel_rfl) ?_ _
                      refine NoPanic.normal ?_
                      replace k0 := hs0.cell k0
                      replace k1 := hs0.cell k1
                      replace k2 := hs0.cell k2
                      replace k3 := hs0.cell k3
                      replace k4 := hs0.cell k4
                      replace k5 := hs0.cell k5
                      replace k6 := hs0.cell k6
                      replace k7 := hs0.cell k7
                      have HGZ := Lib.hid (HGY.out.trans hs0)
                      have HXZ := Lib.hid (HXE.out.g hs0)
                      clear d0 d6 d7
                      generalize wy.drew = wz at k0 k1 k2 k3 k4 k5 k6 k7 HGZ HXZ ⊢
                      clear hs0 HGY HXE
                      obtain ⟨o, ho, hy1, hob⟩ := HFA.out.edge (j + 1) _ HEV.out rfl
                      obtain rfl : xq = 0 := congrArg (fun z : PEv => z.2.2.1) hy1
                      have hxo : outE ⟨xf, xt, xl, xm, .slice pv nv cv, xps⟩ = o := congrArg (fun z : PEv => z.2.1) hy1
                      obtain rfl : xa = xm := (congrArg (fun z : PEv => z.2.2.2) hy1).trans (by rw [← hxo]; rfl)
                      have hxb : xa ≤ b := by rw [← hxo] at hob; exact hob
                      rw [← HKK.out] at ho
                      have hkN : kk < Nh := by have := (List.getElem?_eq_some_iff.1 ho).1; have := HNH.out.2.1; omega
                      have hrh : Rdr wz 5 (.slice ph Nh ch) Nh (ecs Lh) := rdr_of_owns (HGZ.out.ownsRow HX5.out.2.2.1)
                      obtain ⟨bh, oh, rfl, e0, e1, e2, e3, e4⟩ := cellsAt5 (L := Lh) hrh HNH.out.1.symm hkN
                      have hmh : Lh[kk]? = some (eat Lh kk) := eat_get (by have := HNH.out.1; omega)
                      have hoe : outE (eat Lh kk) = o := by
                        have h1 := HNH.out.2.2
                        rw [← h1, List.getElem?_map, hmh] at ho
                        simpa using ho
                      have hEh := ((HX5.out.2.2.2.1 _ (List.mem_of_getElem? hmh)).g HGZ.out).at
                      obtain ⟨pe, ne, ce, hev1⟩ := hEh.isE
                      obtain ⟨Eh, hEhh⟩ : ∃ Eh, Eh = eat Lh kk := ⟨_, rfl⟩
                      rw [← hEhh] at e0 e1 e2 e3 e4 hoe hEh hev1
                      rw [hev1] at e4
                      have hEv1 : ev Eh = .agg #[.string Eh.f, .string Eh.t, .string Eh.l, .int .i64 Eh.tm, .slice pe ne ce] := by unfold ev; rw [hev1]
                      have HSE : Hid (∀ X, G wz X → Calls Try.prog 22 #[.agg #[.string xf, .string xt, .string xl, .int .i64 xa, .slice pv nv cv], .agg #[.string Eh.f, .string Eh.t, .string Eh.l, .int .i64 Eh.tm, .slice pe ne ce]] X fun e' w' => e' = .returned (.bool true) ∧ G X w') := Lib.hid (fun X hX => by
                        have h1 := sameE_any _ Eh X (HXZ.out.g hX) (hEh.g hX)
                        rw [sameE_yes (hxo.trans hoe.symm), hEv1] at h1
                        exact h1)
                      have hkI : (kk : Int) < (Nh : Int) := by omega
                      have hkI' : ¬ (Nh : Int) ≤ (kk : Int) := by omega
                      have hk0 : (0 : Int) ≤ (kk : Int) := by omega
                      have htb' : ¬ b < xa := by omega
                      have HK2 : Hid (kk + 1 = nE (evs.take (j + 1 + 1))) := Lib.hid (by rw [HKN.out, ← HKK.out]; rfl)
                      clear hy1 ho hrh hmh hoe hEh hev1 hEhh hEv1 hxo hob
                      go_upto_region 25 with fail
                      refine region_hl (fun w' => G wz w') 99 33 (by kernel_rfl) rfl ?_
                      simp only [List.replicate_succ, List.replicate_zero]
                      have hs0 : (fun w' : World => G wz w') wz.drew := (G.refl wz).drew
                      refine hl_take_np 0 (by kernel_rfl) (by kernel_rfl) rfl (by kernel_rfl) hs0 (v := ?_) ?_ ?_
                      rotate_left
                      · (rintro x hx; have q0 := hx.cell k0; have q1 := hx.cell k1; have q2 := hx.cell k2; have q3 := hx.cell k3; have q4 := hx.cell k4; have q5 := hx.cell k5; have q6 := hx.cell k6; have q7 := hx.cell k7; have r0 := hx.cell e0; have r1 := hx.cell e1; have r2 := hx.cell e2; have r3 := hx.cell e3; have r4 := hx.cell e4; clear hx; go_simp; try rfl)
                      simp only [Act.put, List.setIfInBounds_toArray, List.set_cons_zero, List.set_cons_succ]
                      refine hl_take_np 1 (by kernel_rfl) (by kernel_rfl) rfl (by kernel_rfl) hs0 (v := ?_) ?_ ?_
                      rotate_left
                      · (rintro x hx; have q0 := hx.cell k0; have q1 := hx.cell k1; have q2 := hx.cell k2; have q3 := hx.cell k3; have q4 := hx.cell k4; have q5 := hx.cell k5; have q6 := hx.cell k6; have q7 := hx.cell k7; have r0 := hx.cell e0; have r1 := hx.cell e1; have r2 := hx.cell e2; have r3 := hx.cell e3; have r4 := hx.cell e4; clear hx; go_simp; try rfl)
                      simp only [Act.put, List.setIfInBounds_toArray, List.set_cons_zero, List.set_cons_succ]
                      refine hl_take_np 2 (by kernel_rfl) (by kernel_rfl) rfl (by kernel_rfl) hs0 (v := ?_) ?_ ?_
                      rotate_left
                      · (rintro x hx; have q0 := hx.cell k0; have q1 := hx.cell k1; have q2 := hx.cell k2; have q3 := hx.cell k3; have q4 := hx.cell k4; have q5 := hx.cell k5; have q6 := hx.cell k6; have q7 := hx.cell k7; have r0 := hx.cell e0; have r1 := hx.cell e1; have r2 := hx.cell e2; have r3 := hx.cell e3; have r4 := hx.cell e4; clear hx; go_simp; try rfl)
                      simp only [Act.put, List.setIfInBounds_toArray, List.set_cons_zero, List.set_cons_succ]
                      refine hl_take_np 3 (by kernel_rfl) (by kernel_rfl) rfl (by kernel_rfl) hs0 (v := ?_) ?_ ?_
                      rotate_left
                      · (rintro x hx; have q0 := hx.cell k0; have q1 := hx.cell k1; have q2 := hx.cell k2; have q3 := hx.cell k3; have q4 := hx.cell k4; have q5 := hx.cell k5; have q6 := hx.cell k6; have q7 := hx.cell k7; have r0 := hx.cell e0; have r1 := hx.cell e1; have r2 := hx.cell e2; have r3 := hx.cell e3; have r4 := hx.cell e4; clear hx; go_simp; try rfl)
                      simp only [Act.put, List.setIfInBounds_toArray, List.set_cons_zero, List.set_cons_succ]
                      refine hl_take_np 4 (by kernel_rfl) (by kernel_rfl) rfl (by kernel_rfl) hs0 (v := ?_) ?_ ?_
                      rotate_left
                      · (rintro x hx; have q0 := hx.cell k0; have q1 := hx.cell k1; have q2 := hx.cell k2; have q3 := hx.cell k3; have q4 := hx.cell k4; have q5 := hx.cell k5; have q6 := hx.cell k6; have q7 := hx.cell k7; have r0 := hx.cell e0; have r1 := hx.cell e1; have r2 := hx.cell e2; have r3 := hx.cell e3; have r4 := hx.cell e4; clear hx; go_simp; try rfl)
                      simp only [Act.put, List.setIfInBounds_toArray, List.set_cons_zero, List.set_cons_succ]
                      refine hl_take_np 5 (by kernel_rfl) (by kernel_rfl) rfl (by kernel_rfl) hs0 (v := ?_) ?_ ?_
                      rotate_left
                      · (rintro x hx; have q0 := hx.cell k0; have q1 := hx.cell k1; have q2 := hx.cell k2; have q3 := hx.cell k3; have q4 := hx.cell k4; have q5 := hx.cell k5; have q6 := hx.cell k6; have q7 := hx.cell k7; have r0 := hx.cell e0; have r1 := hx.cell e1; have r2 := hx.cell e2; have r3 := hx.cell e3; have r4 := hx.cell e4; clear hx; go_simp; try rfl)
                      simp only [Act.put, List.setIfInBounds_toArray, List.set_cons_zero, List.set_cons_succ]
                      refine hl_take_np 6 (by kernel_rfl) (by kernel_rfl) rfl (by kernel_rfl) hs0 (v := ?_) ?_ ?_
                      rotate_left
                      · (rintro x hx; have q0 := hx.cell k0; have q1 := hx.cell k1; have q2 := hx.cell k2; have q3 := hx.cell k3; have q4 := hx.cell k4; have q5 := hx.cell k5; have q6 := hx.cell k6; have q7 := hx.cell k7; have r0 := hx.cell e0; have r1 := hx.cell e1; have r2 := hx.cell e2; have r3 := hx.cell e3; have r4 := hx.cell e4; clear hx; go_simp; try rfl)
                      simp only [Act.put, List.setIfInBounds_toArray, List.set_cons_zero, List.set_cons_succ]
                      refine hl_take_np 7 (by kernel_rfl) (by kernel_rfl) rfl (by kernel_rfl) hs0 (v := ?_) ?_ ?_
                      rotate_left
                      · (rintro x hx; have q0 := hx.cell k0; have q1 := hx.cell k1; have q2 := hx.cell k2; have q3 := hx.cell k3; have q4 := hx.cell k4; have q5 := hx.cell k5; have q6 := hx.cell k6; have q7 := hx.cell k7; have r0 := hx.cell e0; have r1 := hx.cell e1; have r2 := hx.cell e2; have r3 := hx.cell e3; have r4 := hx.cell e4; clear hx; go_simp; try rfl)
                      simp only [Act.put, List.setIfInBounds_toArray, List.set_cons_zero, List.set_cons_succ]
                      refine hl_take_np 8 (by kernel_rfl) (by kernel_rfl) rfl (by kernel_rfl) hs0 (v := ?_) ?_ ?_
                      rotate_left
                      · (rintro x hx; have q0 := hx.cell k0; have q1 := hx.cell k1; have q2 := hx.cell k2; have q3 := hx.cell k3; have q4 := hx.cell k4; have q5 := hx.cell k5; have q6 := hx.cell k6; have q7 := hx.cell k7; have r0 := hx.cell e0; have r1 := hx.cell e1; have r2 := hx.cell e2; have r3 := hx.cell e3; have r4 := hx.cell e4; clear hx; go_simp; try rfl)
                      simp only [Act.put, List.setIfInBounds_toArray, List.set_cons_zero, List.set_cons_succ]
                      refine hl_take_np 9 (by kernel_rfl) (by kernel_rfl) rfl (by kernel_rfl) hs0 (v := ?_) ?_ ?_
                      rotate_left
                      · (rintro x hx; have q0 := hx.cell k0; have q1 := hx.cell k1; have q2 := hx.cell k2; have q3 := hx.cell k3; have q4 := hx.cell k4; have q5 := hx.cell k5; have q6 := hx.cell k6; have q7 := hx.cell k7; have r0 := hx.cell e0; have r1 := hx.cell e1; have r2 := hx.cell e2; have r3 := hx.cell e3; have r4 := hx.cell e4; clear hx; go_simp; try rfl)
                      simp only [Act.put, List.setIfInBounds_toArray, List.set_cons_zero, List.set_cons_succ]
                      refine hl_take_np 10 (by kernel_rfl) (by kernel_rfl) rfl (by kernel_rfl) hs0 (v := ?_) ?_ ?_
                      rotate_left
                      · (rintro x hx; have q0 := hx.cell k0; have q1 := hx.cell k1; have q2 := hx.cell k2; have q3 := hx.cell k3; have q4 := hx.cell k4; have q5 := hx.cell k5; have q6 := hx.cell k6; have q7 := hx.cell k7; have r0 := hx.cell e0; have r1 := hx.cell e1; have r2 := hx.cell e2; have r3 := hx.cell e3; have r4 := hx.cell e4; clear hx; go_simp; try rfl)
                      simp only [Act.put, List.setIfInBounds_toArray, List.set_cons_zero, List.set_cons_succ]
                      refine hl_stepW 11 (by kernel_rfl) rfl (by kernel_rfl) ?_
                      intro K hK
                      go_simp
                      refine (HSE.out _ hs0).mono ?_
                      rintro e0 w6 ⟨rfl, hga⟩
                      have hs1 : G wz w6 := hs0.trans hga
                      refine hK _ _ (fun _ => hs1) ?_
                      clear hK
                      simp only [Act.put, List.setIfInBounds_toArray, List.set_cons_zero, List.set_cons_succ]
                      refine hl_take_np 12 (by kernel_rfl) (by kernel_rfl) rfl (by kernel_rfl) hs1 (v := ?_) ?_ ?_
                      rotate_left
                      · (rintro x hx; have q3 := hx.cell k4; have q6 := hx.cell k6; have q7 := hx.cell k7; clear hx; go_simp; try rfl)
                      simp only [Act.put, List.setIfInBounds_toArray, List.set_cons_zero, List.set_cons_succ]
                      refine hl_take_np 13 (by kernel_rfl) (by kernel_rfl) rfl (by kernel_rfl) hs1 (v := ?_) ?_ ?_
                      rotate_left
                      · (rintro x hx; have q3 := hx.cell k4; have q6 := hx.cell k6; have q7 := hx.cell k7; clear hx; go_simp; try rfl)
                      simp only [Act.put, List.setIfInBounds_toArray, List.set_cons_zero, List.set_cons_succ]
                      refine hl_take_np 14 (by kernel_rfl) (by kernel_rfl) rfl (by kernel_rfl) hs1 (v := ?_) ?_ ?_
                      rotate_left
                      · (rintro x hx; have q3 := hx.cell k4; have q6 := hx.cell k6; have q7 := hx.cell k7; clear hx; go_simp; try rfl)
                      simp only [Act.put, List.setIfInBounds_toArray, List.set_cons_zero, List.set_cons_succ]
                      refine hl_take_np 15 (by kernel_rfl) (by kernel_rfl) rfl (by kernel_rfl) hs1 (v := ?_) ?_ ?_
                      rotate_left
                      · (rintro x hx; have q3 := hx.cell k4; have q6 := hx.cell k6; have q7 := hx.cell k7; clear hx; go_simp; try rfl)
                      simp only [Act.put, List.setIfInBounds_toArray, List.set_cons_zero, List.set_cons_succ]
                      refine hl_take_np 16 (by kernel_rfl) (by kernel_rfl) rfl (by kernel_rfl) hs1 (v := ?_) ?_ ?_
                      rotate_left
                      · (rintro x hx; have q3 := hx.cell k4; have q6 := hx.cell k6; have q7 := hx.cell k7; clear hx; go_simp; try rfl)
                      simp only [Act.put, List.setIfInBounds_toArray, List.set_cons_zero, List.set_cons_succ]
                      refine hl_take_np 17 (by kernel_rfl) (by kernel_rfl) rfl (by kernel_rfl) hs1 (v := ?_) ?_ ?_
                      rotate_left
                      · (rintro x hx; have q3 := hx.cell k4; have q6 := hx.cell k6; have q7 := hx.cell k7; clear hx; go_simp; try rfl)
                      simp only [Act.put, List.setIfInBounds_toArray, List.set_cons_zero, List.set_cons_succ]
                      refine hl_take_np 18 (by kernel_rfl) (by kernel_rfl) rfl (by kernel_rfl) hs1 (v := ?_) ?_ ?_
                      rotate_left
                      · (rintro x hx; have q3 := hx.cell k4; have q6 := hx.cell k6; have q7 := hx.cell k7; clear hx; go_simp; try rfl)
                      simp only [Act.put, List.setIfInBounds_toArray, List.set_cons_zero, List.set_cons_succ]
                      refine hl_take_np 19 (by kernel_rfl) (by kernel_rfl) rfl (by kernel_rfl) hs1 (v := ?_) ?_ ?_
                      rotate_left
                      · (rintro x hx; have q3 := hx.cell k4; have q6 := hx.cell k6; have q7 := hx.cell k7; clear hx; go_simp; try rfl)
                      simp only [Act.put, List.setIfInBounds_toArray, List.set_cons_zero, List.set_cons_succ]
                      refine hl_take_np 20 (by kernel_rfl) (by kernel_rfl) rfl (by kernel_rfl) hs1 (v := ?_) ?_ ?_
                      rotate_left
                      · (rintro x hx; have q3 := hx.cell k4; have q6 := hx.cell k6; have q7 := hx.cell k7; clear hx; go_simp; try rfl)
                      simp only [Act.put, List.setIfInBounds_toArray, List.set_cons_zero, List.set_cons_succ]
                      refine hl_take_np 21 (by kernel_rfl) (by kernel_rfl) rfl (by kernel_rfl) hs1 (v := ?_) ?_ ?_
                      rotate_left
                      · (rintro x hx; have q3 := hx.cell k4; have q6 := hx.cell k6; have q7 := hx.cell k7; clear hx; go_simp; try rfl)
                      simp only [Act.put, List.setIfInBounds_toArray, List.set_cons_zero, List.set_cons_succ]
                      refine hl_take_np 22 (by kernel_rfl) (by kernel_rfl) rfl (by kernel_rfl) hs1 (v := ?_) ?_ ?_
                      rotate_left
                      · (rintro x hx; have q3 := hx.cell k4; have q6 := hx.cell k6; have q7 := hx.cell k7; clear hx; go_simp; try rfl)
                      simp only [Act.put, List.setIfInBounds_toArray, List.set_cons_zero, List.set_cons_succ]
                      refine hl_take_np 23 (by kernel_rfl) (by kernel_rfl) rfl (by kernel_rfl) hs1 (v := ?_) ?_ ?_
                      rotate_left
                      · (rintro x hx; have q3 := hx.cell k4; have q6 := hx.cell k6; have q7 := hx.cell k7; clear hx; go_simp; try rfl)
                      simp only [Act.put, List.setIfInBounds_toArray, List.set_cons_zero, List.set_cons_succ]
                      refine hl_take_np 24 (by kernel_rfl) (by kernel_rfl) rfl (by kernel_rfl) hs1 (v := ?_) ?_ ?_
                      rotate_left
                      · (rintro x hx; have q3 := hx.cell k4; have q6 := hx.cell k6; have q7 := hx.cell k7; clear hx; go_simp; try rfl)
                      simp only [Act.put, List.setIfInBounds_toArray, List.set_cons_zero, List.set_cons_succ]
                      refine hl_take_np 25 (by kernel_rfl) (by kernel_rfl) rfl (by kernel_rfl) hs1 (v := ?_) ?_ ?_
                      rotate_left
                      · (rintro x hx; have q3 := hx.cell k4; have q6 := hx.cell k6; have q7 := hx.cell k7; clear hx; go_simp; try rfl)
                      simp only [Act.put, List.setIfInBounds_toArray, List.set_cons_zero, List.set_cons_succ]
                      refine hl_take_np 26 (by kernel_rfl) (by kernel_rfl) rfl (by kernel_rfl) hs1 (v := ?_) ?_ ?_
                      rotate_left
                      · (rintro x hx; have q3 := hx.cell k4; have q6 := hx.cell k6; have q7 := hx.cell k7; clear hx; go_simp; try rfl)
                      simp only [Act.put, List.setIfInBounds_toArray, List.set_cons_zero, List.set_cons_succ]
                      refine hl_take_np 27 (by kernel_rfl) (by kernel_rfl) rfl (by kernel_rfl) hs1 (v := ?_) ?_ ?_
                      rotate_left
                      · (rintro x hx; have q3 := hx.cell k4; have q6 := hx.cell k6; have q7 := hx.cell k7; clear hx; go_simp; try rfl)
                      simp only [Act.put, List.setIfInBounds_toArray, List.set_cons_zero, List.set_cons_succ]
                      refine hl_take_np 28 (by kernel_rfl) (by kernel_rfl) rfl (by kernel_rfl) hs1 (v := ?_) ?_ ?_
                      rotate_left
                      · (rintro x hx; have q3 := hx.cell k4; have q6 := hx.cell k6; have q7 := hx.cell k7; clear hx; go_simp; try rfl)
                      simp only [Act.put, List.setIfInBounds_toArray, List.set_cons_zero, List.set_cons_succ]
                      refine hl_take_np 29 (by kernel_rfl) (by kernel_rfl) rfl (by kernel_rfl) hs1 (v := ?_) ?_ ?_
                      rotate_left
                      · (rintro x hx; have q3 := hx.cell k4; have q6 := hx.cell k6; have q7 := hx.cell k7; clear hx; go_simp; try rfl)
                      simp only [Act.put, List.setIfInBounds_toArray, List.set_cons_zero, List.set_cons_succ]
                      refine hl_take_np 30 (by kernel_rfl) (by kernel_rfl) rfl (by kernel_rfl) hs1 (v := ?_) ?_ ?_
                      rotate_left
                      · (rintro x hx; have q3 := hx.cell k4; have q6 := hx.cell k6; have q7 := hx.cell k7; clear hx; go_simp; try rfl)
                      simp only [Act.put, List.setIfInBounds_toArray, List.set_cons_zero, List.set_cons_succ]
                      refine hl_take_np 31 (by kernel_rfl) (by kernel_rfl) rfl (by kernel_rfl) hs1 (v := ?_) ?_ ?_
                      rotate_left
                      · (rintro x hx; have q3 := hx.cell k4; have q6 := hx.cell k6; have q7 := hx.cell k7; clear hx; go_simp; try rfl)
                      simp only [Act.put, List.setIfInBounds_toArray, List.set_cons_zero, List.set_cons_succ]
                      refine hl_take_np 32 (by kernel_rfl) (by kernel_rfl) rfl (by kernel_rfl) hs1 (v := ?_) ?_ ?_
                      rotate_left
                      · (rintro x hx; have q3 := hx.cell k4; have q6 := hx.cell k6; have q7 := hx.cell k7; clear hx; go_simp; try rfl)
                      simp only [Act.put, List.setIfInBounds_toArray, List.set_cons_zero, List.set_cons_succ]
                      refine hl_done (by kernel_rfl) ?_ _
                      refine NoPanic.normal ?_
                      have HG7 := Lib.hid (HGZ.out.trans hs1)
                      clear hs0 hs1 hga k0 k1 k2 k3 k4 k5 k6 k7 e0 e1 e2 e3 e4 HSE
                      go_wp2_with fail
                      go_roundw
                      case rel => exact ⟨j + 1 + 1, kk + 1, mm, by go_num, rfl, by go_num, by omega, HK2, by omega, HG7⟩
                      case measure => simp [intOf]; omega
                  · cases hbad
            · go_upto_region 18 with fail
              have hgy : G wr (wr.alloc (.cells #[.bool true, .string xf, .string xt, .string xl, .int .i64 xm, .slice pv nv cv, .int .i64 xq, .int .i64 xa] 53)) := (G.refl wr).alloc _
              have k0 := cell_alloc_at wr [.bool true, .string xf, .string xt, .string xl, .int .i64 xm, .slice pv nv cv, .int .i64 xq, .int .i64 xa] 53 (0, 0) 0 _ rfl
              have k1 := cell_alloc_at wr [.bool true, .string xf, .string xt, .string xl, .int .i64 xm, .slice pv nv cv, .int .i64 xq, .int .i64 xa] 53 (0, 0) 1 _ rfl
              have k2 := cell_alloc_at wr [.bool true, .string xf, .string xt, .string xl, .int .i64 xm, .slice pv nv cv, .int .i64 xq, .int .i64 xa] 53 (0, 0) 2 _ rfl
              have k3 := cell_alloc_at wr [.bool true, .string xf, .string xt, .string xl, .int .i64 xm, .slice pv nv cv, .int .i64 xq, .int .i64 xa] 53 (0, 0) 3 _ rfl
              have k4 := cell_alloc_at wr [.bool true, .string xf, .string xt, .string xl, .int .i64 xm, .slice pv nv cv, .int .i64 xq, .int .i64 xa] 53 (0, 0) 4 _ rfl
              have k5 := cell_alloc_at wr [.bool true, .string xf, .string xt, .string xl, .int .i64 xm, .slice pv nv cv, .int .i64 xq, .int .i64 xa] 53 (0, 0) 5 _ rfl
              have k6 := cell_alloc_at wr [.bool true, .string xf, .string xt, .string xl, .int .i64 xm, .slice pv nv cv, .int .i64 xq, .int .i64 xa] 53 (0, 0) 6 _ rfl
              have k7 := cell_alloc_at wr [.bool true, .string xf, .string xt, .string xl, .int .i64 xm, .slice pv nv cv, .int .i64 xq, .int .i64 xa] 53 (0, 0) 7 _ rfl
              simp only [Nat.zero_add] at k0 k1 k2 k3 k4 k5 k6 k7
              have HGY := Lib.hid (HG.out.trans hgy)
              obtain ⟨yb, hyb⟩ : ∃ yb, yb = wr.heap.size := ⟨_, rfl⟩
              rw [← hyb] at k0 k1 k2 k3 k4 k5 k6 k7 ⊢
              replace HXE := Lib.hid (HXE.out.g hgy)
              generalize (wr.alloc (.cells #[.bool true, .string xf, .string xt, .string xl, .int .i64 xm, .slice pv nv cv, .int .i64 xq, .int .i64 xa] 53)) = wy at k0 k1 k2 k3 k4 k5 k6 k7 HGY HXE ⊢
              clear hyb hgy c0 c1 c2 c3' c4 c5 c6 c7
              by_cases hi1 : i = 0
              · have h4n : ¬ 0 < i := by omega
                have h4i : ¬ (0 : Int) < (i : Int) := by omega
                have h4d : decide ((0 : Int) < (i : Int)) = false := by simpa using hi1
                clear hi1 HPV
                as_aux_lemma =>
                  refine region_hl (fun w' => G wy w') 99 60 (by kernel_rfl) rfl ?_
                  simp only [List.replicate_succ, List.replicate_zero]
                  have hs0 : (fun w' : World => G wy w') wy.drew := (G.refl wy).drew
                  refine hl_take_np 0 (by kernel_rfl) (by kernel_rfl) rfl (by kernel_rfl) hs0 (v := ?_) ?_ ?_
                  rotate_left
                  · (rintro x hx; have q0 := hx.cell k0; have q6 := hx.cell k6; have q7 := hx.cell k7; clear hx; go_simp; try rfl)
                  simp only [Act.put, List.setIfInBounds_toArray, List.set_cons_zero, List.set_cons_succ]
                  refine hl_take_np 1 (by kernel_rfl) (by kernel_rfl) rfl (by kernel_rfl) hs0 (v := ?_) ?_ ?_
                  rotate_left
                  · (rintro x hx; have q0 := hx.cell k0; have q6 := hx.cell k6; have q7 := hx.cell k7; clear hx; go_simp; try rfl)
                  simp only [Act.put, List.setIfInBounds_toArray, List.set_cons_zero, List.set_cons_succ]
                  refine hl_take_np 2 (by kernel_rfl) (by kernel_rfl) rfl (by kernel_rfl) hs0 (v := ?_) ?_ ?_
                  rotate_left
                  · (rintro x hx; have q0 := hx.cell k0; have q6 := hx.cell k6; have q7 := hx.cell k7; clear hx; go_simp; try rfl)
                  simp only [Act.put, List.setIfInBounds_toArray, List.set_cons_zero, List.set_cons_succ]
                  refine hl_skip_np 3 (by kernel_rfl) (by kernel_rfl) rfl (by kernel_rfl) hs0 ?_
                  simp only [Act.put, List.setIfInBounds_toArray, List.set_cons_zero, List.set_cons_succ]
                  refine hl_skip_np 4 (by kernel_rfl) (by kernel_rfl) rfl (by kernel_rfl) hs0 ?_
                  simp only [Act.put, List.setIfInBounds_toArray, List.set_cons_zero, List.set_cons_succ]
                  refine hl_skip_np 5 (by kernel_rfl) (by kernel_rfl) rfl (by kernel_rfl) hs0 ?_
                  simp only [Act.put, List.setIfInBounds_toArray, List.set_cons_zero, List.set_cons_succ]
                  refine hl_skip_np 6 (by kernel_rfl) (by kernel_rfl) rfl (by kernel_rfl) hs0 ?_
                  simp only [Act.put, List.setIfInBounds_toArray, List.set_cons_zero, List.set_cons_succ]
                  refine hl_skip_np 7 (by kernel_rfl) (by kernel_rfl) rfl (by kernel_rfl) hs0 ?_
                  simp only [Act.put, List.setIfInBounds_toArray, List.set_cons_zero, List.set_cons_succ]
                  refine hl_skip_np 8 (by kernel_rfl) (by kernel_rfl) rfl (by kernel_rfl) hs0 ?_
                  simp only [Act.put, List.setIfInBounds_toArray, List.set_cons_zero, List.set_cons_succ]
                  refine hl_skip_np 9 (by kernel_rfl) (by kernel_rfl) rfl (by kernel_rfl) hs0 ?_
                  simp only [Act.put, List.setIfInBounds_toArray, List.set_cons_zero, List.set_cons_succ]
                  refine hl_skip_np 10 (by kernel_rfl) (by kernel_rfl) rfl (by kernel_rfl) hs0 ?_
                  simp only [Act.put, List.setIfInBounds_toArray, List.set_cons_zero, List.set_cons_succ]
                  refine hl_skip_np 11 (by kernel_rfl) (by kernel_rfl) rfl (by kernel_rfl) hs0 ?_
                  simp only [Act.put, List.setIfInBounds_toArray, List.set_cons_zero, List.set_cons_succ]
                  refine hl_skip_np 12 (by kernel_rfl) (by kernel_rfl) rfl (by kernel_rfl) hs0 ?_
                  simp only [Act.put, List.setIfInBounds_toArray, List.set_cons_zero, List.set_cons_succ]
                  refine hl_skip_np 13 (by kernel_rfl) (by kernel_rfl) rfl (by kernel_rfl) hs0 ?_
                  simp only [Act.put, List.setIfInBounds_toArray, List.set_cons_zero, List.set_cons_succ]
                  refine hl_skip_np 14 (by kernel_rfl) (by kernel_rfl) rfl (by kernel_rfl) hs0 ?_
                  simp only [Act.put, List.setIfInBounds_toArray, List.set_cons_zero, List.set_cons_succ]
                  refine hl_skip_np 15 (by kernel_rfl) (by kernel_rfl) rfl (by kernel_rfl) hs0 ?_
                  simp only [Act.put, List.setIfInBounds_toArray, List.set_cons_zero, List.set_cons_succ]
                  refine hl_skip_np 16 (by kernel_rfl) (by kernel_rfl) rfl (by kernel_rfl) hs0 ?_
                  simp only [Act.put, List.setIfInBounds_toArray, List.set_cons_zero, List.set_cons_succ]
                  refine hl_skip_np 17 (by kernel_rfl) (by kernel_rfl) rfl (by kernel_rfl) hs0 ?_
                  simp only [Act.put, List.setIfInBounds_toArray, List.set_cons_zero, List.set_cons_succ]
                  refine hl_skip_np 18 (by kernel_rfl) (by kernel_rfl) rfl (by kernel_rfl) hs0 ?_
                  simp only [Act.put, List.setIfInBounds_toArray, List.set_cons_zero, List.set_cons_succ]
                  refine hl_skip_np 19 (by kernel_rfl) (by kernel_rfl) rfl (by kernel_rfl) hs0 ?_
                  simp only [Act.put, List.setIfInBounds_toArray, List.set_cons_zero, List.set_cons_succ]
                  refine hl_skip_np 20 (by kernel_rfl) (by kernel_rfl) rfl (by kernel_rfl) hs0 ?_
                  simp only [Act.put, List.setIfInBounds_toArray, List.set_cons_zero, List.set_cons_succ]
                  refine hl_skip_np 21 (by kernel_rfl) (by kernel_rfl) rfl (by kernel_rfl) hs0 ?_
                  simp only [Act.put, List.setIfInBounds_toArray, List.set_cons_zero, List.set_cons_succ]
                  refine hl_skip_np 22 (by kernel_rfl) (by kernel_rfl) rfl (by kernel_rfl) hs0 ?_
                  simp only [Act.put, List.setIfInBounds_toArray, List.set_cons_zero, List.set_cons_succ]
                  refine hl_skip_np 23 (by kernel_rfl) (by kernel_rfl) rfl (by kernel_rfl) hs0 ?_
                  simp only [Act.put, List.setIfInBounds_toArray, List.set_cons_zero, List.set_cons_succ]
                  refine hl_skip_np 24 (by kernel_rfl) (by kernel_rfl) rfl (by kernel_rfl) hs0 ?_
                  simp only [Act.put, List.setIfInBounds_toArray, List.set_cons_zero, List.set_cons_succ]
                  refine hl_skip_np 25 (by kernel_rfl) (by kernel_rfl) rfl (by kernel_rfl) hs0 ?_
                  simp only [Act.put, List.setIfInBounds_toArray, List.set_cons_zero, List.set_cons_succ]
                  refine hl_skip_np 26 (by kernel_rfl) (by kernel_rfl) rfl (by kernel_rfl) hs0 ?_
                  simp only [Act.put, List.setIfInBounds_toArray, List.set_cons_zero, List.set_cons_succ]
                  refine hl_skip_np 27 (by kernel_rfl) (by kernel_rfl) rfl (by kernel_rfl) hs0 ?_
                  simp only [Act.put, List.setIfInBounds_toArray, List.set_cons_zero, List.set_cons_succ]
                  refine hl_skip_np 28 (by kernel_rfl) (by kernel_rfl) rfl (by kernel_rfl) hs0 ?_
                  simp only [Act.put, List.setIfInBounds_toArray, List.set_cons_zero, List.set_cons_succ]
                  refine hl_skip_np 29 (by kernel_rfl) (by kernel_rfl) rfl (by kernel_rfl) hs0 ?_
                  simp only [Act.put, List.setIfInBounds_toArray, List.set_cons_zero, List.set_cons_succ]
                  refine hl_skip_np 30 (by kernel_rfl) (by kernel_rfl) rfl (by kernel_rfl) hs0 ?_
                  simp only [Act.put, List.setIfInBounds_toArray, List.set_cons_zero, List.set_cons_succ]
                  refine hl_skip_np 31 (by kernel_rfl) (by kernel_rfl) rfl (by kernel_rfl) hs0 ?_
                  simp only [Act.put, List.setIfInBounds_toArray, List.set_cons_zero, List.set_cons_succ]
                  refine hl_skip_np 32 (by kernel_rfl) (by kernel_rfl) rfl (by kernel_rfl) hs0 ?_
                  simp only [Act.put, List.setIfInBounds_toArray, List.set_cons_zero, List.set_cons_succ]
                  refine hl_skip_np 33 (by kernel_rfl) (by kernel_rfl) rfl (by kernel_rfl) hs0 ?_
                  simp only [Act.put, List.setIfInBounds_toArray, List.set_cons_zero, List.set_cons_succ]
                  refine hl_skip_np 34 (by kernel_rfl) (by kernel_rfl) rfl (by kernel_rfl) hs0 ?_
                  simp only [Act.put, List.setIfInBounds_toArray, List.set_cons_zero, List.set_cons_succ]
                  refine hl_skip_np 35 (by kernel_rfl) (by kernel_rfl) rfl (by kernel_rfl) hs0 ?_
                  simp only [Act.put, List.setIfInBounds_toArray, List.set_cons_zero, List.set_cons_succ]
                  refine hl_skip_np 36 (by kernel_rfl) (by kernel_rfl) rfl (by kernel_rfl) hs0 ?_
                  simp only [Act.put, List.setIfInBounds_toArray, List.set_cons_zero, List.set_cons_succ]
                  refine hl_skip_np 37 (by kernel_rfl) (by kernel_rfl) rfl (by kernel_rfl) hs0 ?_
                  simp only [Act.put, List.setIfInBounds_toArray, List.set_cons_zero, List.set_cons_succ]
                  refine hl_skip_np 38 (by kernel_rfl) (by kernel_rfl) rfl (by kernel_rfl) hs0 ?_
                  simp only [Act.put, List.setIfInBounds_toArray, List.set_cons_zero, List.set_cons_succ]
                  refine hl_skip_np 39 (by kernel_rfl) (by kernel_rfl) rfl (by kernel_rfl) hs0 ?_
                  simp only [Act.put, List.setIfInBounds_toArray, List.set_cons_zero, List.set_cons_succ]
                  refine hl_skip_np 40 (by kernel_rfl) (by kernel_rfl) rfl (by kernel_rfl) hs0 ?_
                  simp only [Act.put, List.setIfInBounds_toArray, List.set_cons_zero, List.set_cons_succ]
                  refine hl_skip_np 41 (by kernel_rfl) (by kernel_rfl) rfl (by kernel_rfl) hs0 ?_
                  simp only [Act.put, List.setIfInBounds_toArray, List.set_cons_zero, List.set_cons_succ]
                  refine hl_skip_np 42 (by kernel_rfl) (by kernel_rfl) rfl (by kernel_rfl) hs0 ?_
                  simp only [Act.put, List.setIfInBounds_toArray, List.set_cons_zero, List.set_cons_succ]
                  refine hl_skip_np 43 (by kernel_rfl) (by kernel_rfl) rfl (by kernel_rfl) hs0 ?_
                  simp only [Act.put, List.setIfInBounds_toArray, List.set_cons_zero, List.set_cons_succ]
                  refine hl_skip_np 44 (by kernel_rfl) (by kernel_rfl) rfl (by kernel_rfl) hs0 ?_
                  simp only [Act.put, List.setIfInBounds_toArray, List.set_cons_zero, List.set_cons_succ]
                  refine hl_skip_np 45 (by kernel_rfl) (by kernel_rfl) rfl (by kernel_rfl) hs0 ?_
                  simp only [Act.put, List.setIfInBounds_toArray, List.set_cons_zero, List.set_cons_succ]
                  refine hl_skip_np 46 (by kernel_rfl) (by kernel_rfl) rfl (by kernel_rfl) hs0 ?_
                  simp only [Act.put, List.setIfInBounds_toArray, List.set_cons_zero, List.set_cons_succ]
                  refine hl_skip_np 47 (by kernel_rfl) (by kernel_rfl) rfl (by kernel_rfl) hs0 ?_
                  simp only [Act.put, List.setIfInBounds_toArray, List.set_cons_zero, List.set_cons_succ]
                  refine hl_skip_np 48 (by kernel_rfl) (by kernel_rfl) rfl (by kernel_rfl) hs0 ?_
                  simp only [Act.put, List.setIfInBounds_toArray, List.set_cons_zero, List.set_cons_succ]
                  refine hl_skip_np 49 (by kernel_rfl) (by kernel_rfl) rfl (by kernel_rfl) hs0 ?_
                  simp only [Act.put, List.setIfInBounds_toArray, List.set_cons_zero, List.set_cons_succ]
                  refine hl_skip_np 50 (by kernel_rfl) (by kernel_rfl) rfl (by kernel_rfl) hs0 ?_
                  simp only [Act.put, List.setIfInBounds_toArray, List.set_cons_zero, List.set_cons_succ]
                  refine hl_skip_np 51 (by kernel_rfl) (by kernel_rfl) rfl (by kernel_rfl) hs0 ?_
                  simp only [Act.put, List.setIfInBounds_toArray, List.set_cons_zero, List.set_cons_succ]
                  refine hl_skip_np 52 (by kernel_rfl) (by kernel_rfl) rfl (by kernel_rfl) hs0 ?_
                  simp only [Act.put, List.setIfInBounds_toArray, List.set_cons_zero, List.set_cons_succ]
                  refine hl_skip_np 53 (by kernel_rfl) (by kernel_rfl) rfl (by kernel_rfl) hs0 ?_
                  simp only [Act.put, List.setIfInBounds_toArray, List.set_cons_zero, List.set_cons_succ]
                  refine hl_skip_np 54 (by kernel_rfl) (by kernel_rfl) rfl (by kernel_rfl) hs0 ?_
                  simp only [Act.put, List.setIfInBounds_toArray, List.set_cons_zero, List.set_cons_succ]
                  refine hl_skip_np 55 (by kernel_rfl) (by kernel_rfl) rfl (by kernel_rfl) hs0 ?_
                  simp only [Act.put, List.setIfInBounds_toArray, List.set_cons_zero, List.set_cons_succ]
                  refine hl_skip_np 56 (by kernel_rfl) (by kernel_rfl) rfl (by kernel_rfl) hs0 ?_
                  simp only [Act.put, List.setIfInBounds_toArray, List.set_cons_zero, List.set_cons_succ]
                  refine hl_skip_np 57 (by kernel_rfl) (by kernel_rfl) rfl (by kernel_rfl) hs0 ?_
                  simp only [Act.put, List.setIfInBounds_toArray, List.set_cons_zero, List.set_cons_succ]
                  refine hl_skip_np 58 (by kernel_rfl) (by kernel_rfl) rfl (by kernel_rfl) hs0 ?_
                  simp only [Act.put, List.setIfInBounds_toArray, List.set_cons_zero, List.set_cons_succ]
                  refine hl_take_np 59 (by kernel_rfl) (by kernel_rfl) rfl (by kernel_rfl) hs0 (v := ?_) ?_ ?_
                  rotate_left
                  · (rintro x hx; have q0 := hx.cell k0; have q6 := hx.cell k6; have q7 := hx.cell k7; clear hx; go_simp; try rfl)
                  simp only [Act.put, List.setIfInBounds_toArray, List.set_cons_zero, List.set_cons_succ]
                  refine hl_done (by kernel_rfl) ?_ _
                  refine NoPanic.normal ?_
                  replace k0 := hs0.cell k0
                  replace k1 := hs0.cell k1
                  replace k2 := hs0.cell k2
                  replace k3 := hs0.cell k3
                  replace k4 := hs0.cell k4
                  replace k5 := hs0.cell k5
                  replace k6 := hs0.cell k6
                  replace k7 := hs0.cell k7
                  have HGZ := Lib.hid (HGY.out.trans hs0)
                  have HXZ := Lib.hid (HXE.out.g hs0)
                  generalize wy.drew = wz at k0 k1 k2 k3 k4 k5 k6 k7 HGZ HXZ ⊢
                  clear hs0 HGY HXE
                  obtain ⟨t, q, sl, hy1, hsl1, hsl2, hsl3, hsl4, hta, ht0, htb⟩ := HFA.out.close (i) _ HEV.out rfl
                  obtain rfl : xq = q := congrArg (fun z : PEv => z.2.2.1) hy1
                  obtain rfl : xa = t := congrArg (fun z : PEv => z.2.2.2) hy1
                  have hyo : outE ⟨xf, xt, xl, xm, .slice pv nv cv, xps⟩ = outE zE.1 := congrArg (fun z : PEv => z.2.1) hy1
                  have HSE : Hid (∀ X, G wz X → Calls Try.prog 22 #[.agg #[.string xf, .string xt, .string xl, .int .i64 xm, .slice pv nv cv], .agg #[.string ⟨#[]⟩, .string ⟨#[]⟩, .string ⟨#[]⟩, .int .i64 0, .slice none 0 0]] X fun e' w' => e' = .returned (.bool true) ∧ G X w') := Lib.hid (fun X hX => by
                    have h1 := sameE_any _ zE.1 X (HXZ.out.g hX) ⟨Rdr.nil _ _ _ _, Nat.zero_le _, fun p hp => (by cases hp), Nat.zero_le _, Nat.zero_le _, Nat.zero_le _⟩
                    rw [sameE_yes hyo] at h1
                    exact h1)
                  have HSL := Lib.hid (slide_any l _ xq wz (H3.out.g (HGW5.out.trans HGZ.out)) (by have := HM.out; omega))
                  rw [hsl1] at HSL
                  have hsl0 : ¬ sl = 0 := by omega
                  have hta' : ¬ xa ≤ a := by omega
                  have htb' : ¬ b < xa := by omega
                  have ht0' : ¬ xa = 0 := by omega
                  have hslb : (sl == 0) = false := by simpa using hsl0
                  have hxab : (xa == 0) = false := by simpa using ht0'
                  have hrem : IntKind.i64.wrap (xa.tmod sl) = 0 := by
                    rw [Int.tmod_eq_emod_of_nonneg (by omega), hsl4]; exact IntWalk.i64_in _ (by omega)
                  have HK2 : Hid (kk = nE (evs.take (i + 1))) := Lib.hid (by rw [HKN.out, ← HKK.out]; rfl)
                  clear hy1 hyo hsl1
                  go_wp2_with fail
                  refine HSL.out.mono ?_
                  rintro e0 w6 ⟨rfl, rfl⟩
                  go_wp2_with fail
                  refine (HSE.out _ (G.refl _)).mono ?_
                  rintro e0 w7 ⟨rfl, hg7⟩
                  have HG7 := Lib.hid (HGZ.out.trans hg7)
                  clear hg7 k0 k1 k2 k3 k4 k5 k6 k7 HSE HSL hrem hsl4
                  go_wp2_with fail
                  go_roundw
                  case rel => exact ⟨i + 1, kk, mm + 1, rfl, by go_num, by go_num, by omega, HK2, by omega, HG7⟩
                  case measure => simp [intOf]; omega
              · obtain ⟨j, rfl⟩ : ∃ j, i = j + 1 := ⟨i - 1, by omega⟩
                obtain ⟨y, hy, hrv⟩ := HPV.out j rfl
                have hrx : Rdr wy 8 (.slice (some ⟨bx, ox, none⟩) Nx cx) Nx (vcs X) := rdr_of_owns (HGY.out.ownsRow HX5.out.1)
                obtain ⟨bx', ox', he', d0, -, -, -, -, -, d6, d7⟩ := cellsAt8 hrx HNX.out.1 hy
                cases he'
                obtain ⟨ycl, ye, yq, ya⟩ := y
                simp only at d0 d6 d7
                have hjw : IntKind.i64.wrap (j : Int) = (j : Int) := IntWalk.i64_in _ (by omega)
                have hjm : (j : Int) < (Nx : Int) := by omega
                have hj0 : (0 : Int) ≤ (j : Int) := by omega
                have hjp : 0 < j + 1 := by omega
                clear hy hrx
                have hrv2 : ya < xa ∨ (ya = xa ∧ (ycl = false ∨ (ycl = true ∧ true = true ∧ yq < xq))) := hrv
                clear hrv
                rcases hrv2 with hlt1 | ⟨heq, hrv3⟩
                · have hn1 : ¬ xa < ya := by omega
                  have hn2 : ¬ xa = ya := by omega
                  have hn2b : (xa == ya) = false := by simpa using hn2
                  clear HPV
                  as_aux_lemma =>
                    refine region_hl (fun w' => G wy w') 99 60 (by kernel_rfl) rfl ?_
                    simp only [List.replicate_succ, List.replicate_zero]
                    have hs0 : (fun w' : World => G wy w') wy.drew := (G.refl wy).drew
                    refine hl_take_np 0 (by kernel_rfl) (by kernel_rfl) rfl (by kernel_rfl) hs0 (v := ?_) ?_ ?_
                    rotate_left
                    · (rintro x hx; have q0 := hx.cell k0; have q6 := hx.cell k6; have q7 := hx.cell k7; have r0 := hx.cell d0; have r6 := hx.cell d6; have r7 := hx.cell d7; clear hx; go_simp; try rfl)
                    simp only [Act.put, List.setIfInBounds_toArray, List.set_cons_zero, List.set_cons_succ]
                    refine hl_take_np 1 (by kernel_rfl) (by kernel_rfl) rfl (by kernel_rfl) hs0 (v := ?_) ?_ ?_
                    rotate_left
                    · (rintro x hx; have q0 := hx.cell k0; have q6 := hx.cell k6; have q7 := hx.cell k7; have r0 := hx.cell d0; have r6 := hx.cell d6; have r7 := hx.cell d7; clear hx; go_simp; try rfl)
                    simp only [Act.put, List.setIfInBounds_toArray, List.set_cons_zero, List.set_cons_succ]
                    refine hl_take_np 2 (by kernel_rfl) (by kernel_rfl) rfl (by kernel_rfl) hs0 (v := ?_) ?_ ?_
                    rotate_left
                    · (rintro x hx; have q0 := hx.cell k0; have q6 := hx.cell k6; have q7 := hx.cell k7; have r0 := hx.cell d0; have r6 := hx.cell d6; have r7 := hx.cell d7; clear hx; go_simp; try rfl)
                    simp only [Act.put, List.setIfInBounds_toArray, List.set_cons_zero, List.set_cons_succ]
                    refine hl_take_np 3 (by kernel_rfl) (by kernel_rfl) rfl (by kernel_rfl) hs0 (v := ?_) ?_ ?_
                    rotate_left
                    · (rintro x hx; have q0 := hx.cell k0; have q6 := hx.cell k6; have q7 := hx.cell k7; have r0 := hx.cell d0; have r6 := hx.cell d6; have r7 := hx.cell d7; clear hx; go_simp; try rfl)
                    simp only [Act.put, List.setIfInBounds_toArray, List.set_cons_zero, List.set_cons_succ]
                    refine hl_take_np 4 (by kernel_rfl) (by kernel_rfl) rfl (by kernel_rfl) hs0 (v := ?_) ?_ ?_
                    rotate_left
                    · (rintro x hx; have q0 := hx.cell k0; have q6 := hx.cell k6; have q7 := hx.cell k7; have r0 := hx.cell d0; have r6 := hx.cell d6; have r7 := hx.cell d7; clear hx; go_simp; try rfl)
                    simp only [Act.put, List.setIfInBounds_toArray, List.set_cons_zero, List.set_cons_succ]
                    refine hl_take_np 5 (by kernel_rfl) (by kernel_rfl) rfl (by kernel_rfl) hs0 (v := ?_) ?_ ?_
                    rotate_left
                    · (rintro x hx; have q0 := hx.cell k0; have q6 := hx.cell k6; have q7 := hx.cell k7; have r0 := hx.cell d0; have r6 := hx.cell d6; have r7 := hx.cell d7; clear hx; go_simp; try rfl)
                    simp only [Act.put, List.setIfInBounds_toArray, List.set_cons_zero, List.set_cons_succ]
                    refine hl_take_np 6 (by kernel_rfl) (by kernel_rfl) rfl (by kernel_rfl) hs0 (v := ?_) ?_ ?_
                    rotate_left
                    · (rintro x hx; have q0 := hx.cell k0; have q6 := hx.cell k6; have q7 := hx.cell k7; have r0 := hx.cell d0; have r6 := hx.cell d6; have r7 := hx.cell d7; clear hx; go_simp; try rfl)
                    simp only [Act.put, List.setIfInBounds_toArray, List.set_cons_zero, List.set_cons_succ]
                    refine hl_take_np 7 (by kernel_rfl) (by kernel_rfl) rfl (by kernel_rfl) hs0 (v := ?_) ?_ ?_
                    rotate_left
                    · (rintro x hx; have q0 := hx.cell k0; have q6 := hx.cell k6; have q7 := hx.cell k7; have r0 := hx.cell d0; have r6 := hx.cell d6; have r7 := hx.cell d7; clear hx; go_simp; try rfl)
                    simp only [Act.put, List.setIfInBounds_toArray, List.set_cons_zero, List.set_cons_succ]
                    refine hl_take_np 8 (by kernel_rfl) (by kernel_rfl) rfl (by kernel_rfl) hs0 (v := ?_) ?_ ?_
                    rotate_left
                    · (rintro x hx; have q0 := hx.cell k0; have q6 := hx.cell k6; have q7 := hx.cell k7; have r0 := hx.cell d0; have r6 := hx.cell d6; have r7 := hx.cell d7; clear hx; go_simp; try rfl)
                    simp only [Act.put, List.setIfInBounds_toArray, List.set_cons_zero, List.set_cons_succ]
                    refine hl_take_np 9 (by kernel_rfl) (by kernel_rfl) rfl (by kernel_rfl) hs0 (v := ?_) ?_ ?_
                    rotate_left
                    · (rintro x hx; have q0 := hx.cell k0; have q6 := hx.cell k6; have q7 := hx.cell k7; have r0 := hx.cell d0; have r6 := hx.cell d6; have r7 := hx.cell d7; clear hx; go_simp; try rfl)
                    simp only [Act.put, List.setIfInBounds_toArray, List.set_cons_zero, List.set_cons_succ]
                    refine hl_take_np 10 (by kernel_rfl) (by kernel_rfl) rfl (by kernel_rfl) hs0 (v := ?_) ?_ ?_
                    rotate_left
                    · (rintro x hx; have q0 := hx.cell k0; have q6 := hx.cell k6; have q7 := hx.cell k7; have r0 := hx.cell d0; have r6 := hx.cell d6; have r7 := hx.cell d7; clear hx; go_simp; try rfl)
                    simp only [Act.put, List.setIfInBounds_toArray, List.set_cons_zero, List.set_cons_succ]
                    refine hl_take_np 11 (by kernel_rfl) (by kernel_rfl) rfl (by kernel_rfl) hs0 (v := ?_) ?_ ?_
                    rotate_left
                    · (rintro x hx; have q0 := hx.cell k0; have q6 := hx.cell k6; have q7 := hx.cell k7; have r0 := hx.cell d0; have r6 := hx.cell d6; have r7 := hx.cell d7; clear hx; go_simp; try rfl)
                    simp only [Act.put, List.setIfInBounds_toArray, List.set_cons_zero, List.set_cons_succ]
                    refine hl_take_np 12 (by kernel_rfl) (by kernel_rfl) rfl (by kernel_rfl) hs0 (v := ?_) ?_ ?_
                    rotate_left
                    · (rintro x hx; have q0 := hx.cell k0; have q6 := hx.cell k6; have q7 := hx.cell k7; have r0 := hx.cell d0; have r6 := hx.cell d6; have r7 := hx.cell d7; clear hx; go_simp; try rfl)
                    simp only [Act.put, List.setIfInBounds_toArray, List.set_cons_zero, List.set_cons_succ]
                    refine hl_take_np 13 (by kernel_rfl) (by kernel_rfl) rfl (by kernel_rfl) hs0 (v := ?_) ?_ ?_
                    rotate_left
                    · (rintro x hx; have q0 := hx.cell k0; have q6 := hx.cell k6; have q7 := hx.cell k7; have r0 := hx.cell d0; have r6 := hx.cell d6; have r7 := hx.cell d7; clear hx; go_simp; try rfl)
                    simp only [Act.put, List.setIfInBounds_toArray, List.set_cons_zero, List.set_cons_succ]
                    refine hl_take_np 14 (by kernel_rfl) (by kernel_rfl) rfl (by kernel_rfl) hs0 (v := ?_) ?_ ?_
                    rotate_left
                    · (rintro x hx; have q0 := hx.cell k0; have q6 := hx.cell k6; have q7 := hx.cell k7; have r0 := hx.cell d0; have r6 := hx.cell d6; have r7 := hx.cell d7; clear hx; go_simp; try rfl)
                    simp only [Act.put, List.setIfInBounds_toArray, List.set_cons_zero, List.set_cons_succ]
                    refine hl_take_np 15 (by kernel_rfl) (by kernel_rfl) rfl (by kernel_rfl) hs0 (v := ?_) ?_ ?_
                    rotate_left
                    · (rintro x hx; have q0 := hx.cell k0; have q6 := hx.cell k6; have q7 := hx.cell k7; have r0 := hx.cell d0; have r6 := hx.cell d6; have r7 := hx.cell d7; clear hx; go_simp; try rfl)
                    simp only [Act.put, List.setIfInBounds_toArray, List.set_cons_zero, List.set_cons_succ]
                    refine hl_take_np 16 (by kernel_rfl) (by kernel_rfl) rfl (by kernel_rfl) hs0 (v := ?_) ?_ ?_
                    rotate_left
                    · (rintro x hx; have q0 := hx.cell k0; have q6 := hx.cell k6; have q7 := hx.cell k7; have r0 := hx.cell d0; have r6 := hx.cell d6; have r7 := hx.cell d7; clear hx; go_simp; try rfl)
                    simp only [Act.put, List.setIfInBounds_toArray, List.set_cons_zero, List.set_cons_succ]
                    refine hl_take_np 17 (by kernel_rfl) (by kernel_rfl) rfl (by kernel_rfl) hs0 (v := ?_) ?_ ?_
                    rotate_left
                    · (rintro x hx; have q0 := hx.cell k0; have q6 := hx.cell k6; have q7 := hx.cell k7; have r0 := hx.cell d0; have r6 := hx.cell d6; have r7 := hx.cell d7; clear hx; go_simp; try rfl)
                    simp only [Act.put, List.setIfInBounds_toArray, List.set_cons_zero, List.set_cons_succ]
                    refine hl_take_np 18 (by kernel_rfl) (by kernel_rfl) rfl (by kernel_rfl) hs0 (v := ?_) ?_ ?_
                    rotate_left
                    · (rintro x hx; have q0 := hx.cell k0; have q6 := hx.cell k6; have q7 := hx.cell k7; have r0 := hx.cell d0; have r6 := hx.cell d6; have r7 := hx.cell d7; clear hx; go_simp; try rfl)
                    simp only [Act.put, List.setIfInBounds_toArray, List.set_cons_zero, List.set_cons_succ]
                    refine hl_take_np 19 (by kernel_rfl) (by kernel_rfl) rfl (by kernel_rfl) hs0 (v := ?_) ?_ ?_
                    rotate_left
                    · (rintro x hx; have q0 := hx.cell k0; have q6 := hx.cell k6; have q7 := hx.cell k7; have r0 := hx.cell d0; have r6 := hx.cell d6; have r7 := hx.cell d7; clear hx; go_simp; try rfl)
                    simp only [Act.put, List.setIfInBounds_toArray, List.set_cons_zero, List.set_cons_succ]
                    refine hl_take_np 20 (by kernel_rfl) (by kernel_rfl) rfl (by kernel_rfl) hs0 (v := ?_) ?_ ?_
                    rotate_left
                    · (rintro x hx; have q0 := hx.cell k0; have q6 := hx.cell k6; have q7 := hx.cell k7; have r0 := hx.cell d0; have r6 := hx.cell d6; have r7 := hx.cell d7; clear hx; go_simp; try rfl)
                    simp only [Act.put, List.setIfInBounds_toArray, List.set_cons_zero, List.set_cons_succ]
                    refine hl_take_np 21 (by kernel_rfl) (by kernel_rfl) rfl (by kernel_rfl) hs0 (v := ?_) ?_ ?_
                    rotate_left
                    · (rintro x hx; have q0 := hx.cell k0; have q6 := hx.cell k6; have q7 := hx.cell k7; have r0 := hx.cell d0; have r6 := hx.cell d6; have r7 := hx.cell d7; clear hx; go_simp; try rfl)
                    simp only [Act.put, List.setIfInBounds_toArray, List.set_cons_zero, List.set_cons_succ]
                    refine hl_take_np 22 (by kernel_rfl) (by kernel_rfl) rfl (by kernel_rfl) hs0 (v := ?_) ?_ ?_
                    rotate_left
                    · (rintro x hx; have q0 := hx.cell k0; have q6 := hx.cell k6; have q7 := hx.cell k7; have r0 := hx.cell d0; have r6 := hx.cell d6; have r7 := hx.cell d7; clear hx; go_simp; try rfl)
                    simp only [Act.put, List.setIfInBounds_toArray, List.set_cons_zero, List.set_cons_succ]
                    refine hl_skip_np 23 (by kernel_rfl) (by kernel_rfl) rfl (by kernel_rfl) hs0 ?_
                    simp only [Act.put, List.setIfInBounds_toArray, List.set_cons_zero, List.set_cons_succ]
                    refine hl_skip_np 24 (by kernel_rfl) (by kernel_rfl) rfl (by kernel_rfl) hs0 ?_
                    simp only [Act.put, List.setIfInBounds_toArray, List.set_cons_zero, List.set_cons_succ]
                    refine hl_skip_np 25 (by kernel_rfl) (by kernel_rfl) rfl (by kernel_rfl) hs0 ?_
                    simp only [Act.put, List.setIfInBounds_toArray, List.set_cons_zero, List.set_cons_succ]
                    refine hl_skip_np 26 (by kernel_rfl) (by kernel_rfl) rfl (by kernel_rfl) hs0 ?_
                    simp only [Act.put, List.setIfInBounds_toArray, List.set_cons_zero, List.set_cons_succ]
                    refine hl_skip_np 27 (by kernel_rfl) (by kernel_rfl) rfl (by kernel_rfl) hs0 ?_
                    simp only [Act.put, List.setIfInBounds_toArray, List.set_cons_zero, List.set_cons_succ]
                    refine hl_skip_np 28 (by kernel_rfl) (by kernel_rfl) rfl (by kernel_rfl) hs0 ?_
                    simp only [Act.put, List.setIfInBounds_toArray, List.set_cons_zero, List.set_cons_succ]
                    refine hl_skip_np 29 (by kernel_rfl) (by kernel_rfl) rfl (by kernel_rfl) hs0 ?_
                    simp only [Act.put, List.setIfInBounds_toArray, List.set_cons_zero, List.set_cons_succ]
                    refine hl_skip_np 30 (by kernel_rfl) (by kernel_rfl) rfl (by kernel_rfl) hs0 ?_
                    simp only [Act.put, List.setIfInBounds_toArray, List.set_cons_zero, List.set_cons_succ]
                    refine hl_skip_np 31 (by kernel_rfl) (by kernel_rfl) rfl (by kernel_rfl) hs0 ?_
                    simp only [Act.put, List.setIfInBounds_toArray, List.set_cons_zero, List.set_cons_succ]
                    refine hl_skip_np 32 (by kernel_rfl) (by kernel_rfl) rfl (by kernel_rfl) hs0 ?_
                    simp only [Act.put, List.setIfInBounds_toArray, List.set_cons_zero, List.set_cons_succ]
                    refine hl_skip_np 33 (by kernel_rfl) (by kernel_rfl) rfl (by kernel_rfl) hs0 ?_
                    simp only [Act.put, List.setIfInBounds_toArray, List.set_cons_zero, List.set_cons_succ]
                    refine hl_skip_np 34 (by kernel_rfl) (by kernel_rfl) rfl (by kernel_rfl) hs0 ?_
                    simp only [Act.put, List.setIfInBounds_toArray, List.set_cons_zero, List.set_cons_succ]
                    refine hl_skip_np 35 (by kernel_rfl) (by kernel_rfl) rfl (by kernel_rfl) hs0 ?_
                    simp only [Act.put, List.setIfInBounds_toArray, List.set_cons_zero, List.set_cons_succ]
                    refine hl_skip_np 36 (by kernel_rfl) (by kernel_rfl) rfl (by kernel_rfl) hs0 ?_
                    simp only [Act.put, List.setIfInBounds_toArray, List.set_cons_zero, List.set_cons_succ]
                    refine hl_skip_np 37 (by kernel_rfl) (by kernel_rfl) rfl (by kernel_rfl) hs0 ?_
                    simp only [Act.put, List.setIfInBounds_toArray, List.set_cons_zero, List.set_cons_succ]
                    refine hl_skip_np 38 (by kernel_rfl) (by kernel_rfl) rfl (by kernel_rfl) hs0 ?_
                    simp only [Act.put, List.setIfInBounds_toArray, List.set_cons_zero, List.set_cons_succ]
                    refine hl_skip_np 39 (by kernel_rfl) (by kernel_rfl) rfl (by kernel_rfl) hs0 ?_
                    simp only [Act.put, List.setIfInBounds_toArray, List.set_cons_zero, List.set_cons_succ]
                    refine hl_skip_np 40 (by kernel_rfl) (by kernel_rfl) rfl (by kernel_rfl) hs0 ?_
                    simp only [Act.put, List.setIfInBounds_toArray, List.set_cons_zero, List.set_cons_succ]
                    refine hl_skip_np 41 (by kernel_rfl) (by kernel_rfl) rfl (by kernel_rfl) hs0 ?_
                    simp only [Act.put, List.setIfInBounds_toArray, List.set_cons_zero, List.set_cons_succ]
                    refine hl_skip_np 42 (by kernel_rfl) (by kernel_rfl) rfl (by kernel_rfl) hs0 ?_
                    simp only [Act.put, List.setIfInBounds_toArray, List.set_cons_zero, List.set_cons_succ]
                    refine hl_skip_np 43 (by kernel_rfl) (by kernel_rfl) rfl (by kernel_rfl) hs0 ?_
                    simp only [Act.put, List.setIfInBounds_toArray, List.set_cons_zero, List.set_cons_succ]
                    refine hl_skip_np 44 (by kernel_rfl) (by kernel_rfl) rfl (by kernel_rfl) hs0 ?_
                    simp only [Act.put, List.setIfInBounds_toArray, List.set_cons_zero, List.set_cons_succ]
                    refine hl_skip_np 45 (by kernel_rfl) (by kernel_rfl) rfl (by kernel_rfl) hs0 ?_
                    simp only [Act.put, List.setIfInBounds_toArray, List.set_cons_zero, List.set_cons_succ]
                    refine hl_skip_np 46 (by kernel_rfl) (by kernel_rfl) rfl (by kernel_rfl) hs0 ?_
                    simp only [Act.put, List.setIfInBounds_toArray, List.set_cons_zero, List.set_cons_succ]
                    refine hl_skip_np 47 (by kernel_rfl) (by kernel_rfl) rfl (by kernel_rfl) hs0 ?_
                    simp only [Act.put, List.setIfInBounds_toArray, List.set_cons_zero, List.set_cons_succ]
                    refine hl_skip_np 48 (by kernel_rfl) (by kernel_rfl) rfl (by kernel_rfl) hs0 ?_
                    simp only [Act.put, List.setIfInBounds_toArray, List.set_cons_zero, List.set_cons_succ]
                    refine hl_skip_np 49 (by kernel_rfl) (by kernel_rfl) rfl (by kernel_rfl) hs0 ?_
                    simp only [Act.put, List.setIfInBounds_toArray, List.set_cons_zero, List.set_cons_succ]
                    refine hl_skip_np 50 (by kernel_rfl) (by kernel_rfl) rfl (by kernel_rfl) hs0 ?_
                    simp only [Act.put, List.setIfInBounds_toArray, List.set_cons_zero, List.set_cons_succ]
                    refine hl_skip_np 51 (by kernel_rfl) (by kernel_rfl) rfl (by kernel_rfl) hs0 ?_
                    simp only [Act.put, List.setIfInBounds_toArray, List.set_cons_zero, List.set_cons_succ]
                    refine hl_skip_np 52 (by kernel_rfl) (by kernel_rfl) rfl (by kernel_rfl) hs0 ?_
                    simp only [Act.put, List.setIfInBounds_toArray, List.set_cons_zero, List.set_cons_succ]
                    refine hl_skip_np 53 (by kernel_rfl) (by kernel_rfl) rfl (by kernel_rfl) hs0 ?_
                    simp only [Act.put, List.setIfInBounds_toArray, List.set_cons_zero, List.set_cons_succ]
                    refine hl_skip_np 54 (by kernel_rfl) (by kernel_rfl) rfl (by kernel_rfl) hs0 ?_
                    simp only [Act.put, List.setIfInBounds_toArray, List.set_cons_zero, List.set_cons_succ]
                    refine hl_skip_np 55 (by kernel_rfl) (by kernel_rfl) rfl (by kernel_rfl) hs0 ?_
                    simp only [Act.put, List.setIfInBounds_toArray, List.set_cons_zero, List.set_cons_succ]
                    refine hl_skip_np 56 (by kernel_rfl) (by kernel_rfl) rfl (by kernel_rfl) hs0 ?_
                    simp only [Act.put, List.setIfInBounds_toArray, List.set_cons_zero, List.set_cons_succ]
                    refine hl_take_np 57 (by kernel_rfl) (by kernel_rfl) rfl (by kernel_rfl) hs0 (v := ?_) ?_ ?_
                    rotate_left
                    · (rintro x hx; have q0 := hx.cell k0; have q6 := hx.cell k6; have q7 := hx.cell k7; have r0 := hx.cell d0; have r6 := hx.cell d6; have r7 := hx.cell d7; clear hx; go_simp; try rfl)
                    simp only [Act.put, List.setIfInBounds_toArray, List.set_cons_zero, List.set_cons_succ]
                    refine hl_take_np 58 (by kernel_rfl) (by kernel_rfl) rfl (by kernel_rfl) hs0 (v := ?_) ?_ ?_
                    rotate_left
                    · (rintro x hx; have q0 := hx.cell k0; have q6 := hx.cell k6; have q7 := hx.cell k7; have r0 := hx.cell d0; have r6 := hx.cell d6; have r7 := hx.cell d7; clear hx; go_simp; try rfl)
                    simp only [Act.put, List.setIfInBounds_toArray, List.set_cons_zero, List.set_cons_succ]
                    refine hl_take_np 59 (by kernel_rfl) (by kernel_rfl) rfl (by kernel_rfl) hs0 (v := ?_) ?_ ?_
                    rotate_left
                    · (rintro x hx; have q0 := hx.cell k0; have q6 := hx.cell k6; have q7 := hx.cell k7; have r0 := hx.cell d0; have r6 := hx.cell d6; have r7 := hx.cell d7; clear hx; go_simp; try rfl)
                    simp only [Act.put, List.setIfInBounds_toArray, List.set_cons_zero, List.set_cons_succ]
                    refine hl_done (by kernel_rfl) ?_ _
                    refine NoPanic.normal ?_
                    replace k0 := hs0.cell k0
                    replace k1 := hs0.cell k1
                    replace k2 := hs0.cell k2
                    replace k3 := hs0.cell k3
                    replace k4 := hs0.cell k4
                    replace k5 := hs0.cell k5
                    replace k6 := hs0.cell k6
                    replace k7 := hs0.cell k7
                    have HGZ := Lib.hid (HGY.out.trans hs0)
                    have HXZ := Lib.hid (HXE.out.g hs0)
                    clear d0 d6 d7
                    generalize wy.drew = wz at k0 k1 k2 k3 k4 k5 k6 k7 HGZ HXZ ⊢
                    clear hs0 HGY HXE
                    obtain ⟨t, q, sl, hy1, hsl1, hsl2, hsl3, hsl4, hta, ht0, htb⟩ := HFA.out.close (j + 1) _ HEV.out rfl
                    obtain rfl : xq = q := congrArg (fun z : PEv => z.2.2.1) hy1
                    obtain rfl : xa = t := congrArg (fun z : PEv => z.2.2.2) hy1
                    have hyo : outE ⟨xf, xt, xl, xm, .slice pv nv cv, xps⟩ = outE zE.1 := congrArg (fun z : PEv => z.2.1) hy1
                    have HSE : Hid (∀ X, G wz X → Calls Try.prog 22 #[.agg #[.string xf, .string xt, .string xl, .int .i64 xm, .slice pv nv cv], .agg #[.string ⟨#[]⟩, .string ⟨#[]⟩, .string ⟨#[]⟩, .int .i64 0, .slice none 0 0]] X fun e' w' => e' = .returned (.bool true) ∧ G X w') := Lib.hid (fun X hX => by
                      have h1 := sameE_any _ zE.1 X (HXZ.out.g hX) ⟨Rdr.nil _ _ _ _, Nat.zero_le _, fun p hp => (by cases hp), Nat.zero_le _, Nat.zero_le _, Nat.zero_le _⟩
                      rw [sameE_yes hyo] at h1
                      exact h1)
                    have HSL := Lib.hid (slide_any l _ xq wz (H3.out.g (HGW5.out.trans HGZ.out)) (by have := HM.out; omega))
                    rw [hsl1] at HSL
                    have hsl0 : ¬ sl = 0 := by omega
                    have hta' : ¬ xa ≤ a := by omega
                    have htb' : ¬ b < xa := by omega
                    have ht0' : ¬ xa = 0 := by omega
                    have hslb : (sl == 0) = false := by simpa using hsl0
                    have hxab : (xa == 0) = false := by simpa using ht0'
                    have hrem : IntKind.i64.wrap (xa.tmod sl) = 0 := by
                      rw [Int.tmod_eq_emod_of_nonneg (by omega), hsl4]; exact IntWalk.i64_in _ (by omega)
                    have HK2 : Hid (kk = nE (evs.take (j + 1 + 1))) := Lib.hid (by rw [HKN.out, ← HKK.out]; rfl)
                    clear hy1 hyo hsl1
                    go_wp2_with fail
                    refine HSL.out.mono ?_
                    rintro e0 w6 ⟨rfl, rfl⟩
                    go_wp2_with fail
                    refine (HSE.out _ (G.refl _)).mono ?_
                    rintro e0 w7 ⟨rfl, hg7⟩
                    have HG7 := Lib.hid (HGZ.out.trans hg7)
                    clear hg7 k0 k1 k2 k3 k4 k5 k6 k7 HSE HSL hrem hsl4
                    go_wp2_with fail
                    go_roundw
                    case rel => exact ⟨j + 1 + 1, kk, mm + 1, rfl, by go_num, by go_num, by omega, HK2, by omega, HG7⟩
                    case measure => simp [intOf]; omega
                · rw [heq] at d7
                  clear heq
                  have hn1 : ¬ xa < xa := by omega
                  clear HPV
                  rcases hrv3 with rfl | ⟨rfl, -, hq⟩
                  · as_aux_lemma =>
                      refine region_hl (fun w' => G wy w') 99 60 (by kernel_rfl) rfl ?_
                      simp only [List.replicate_succ, List.replicate_zero]
                      have hs0 : (fun w' : World => G wy w') wy.drew := (G.refl wy).drew
                      refine hl_take_np 0 (by kernel_rfl) (by kernel_rfl) rfl (by kernel_rfl) hs0 (v := ?_) ?_ ?_
                      rotate_left
                      · (rintro x hx; have q0 := hx.cell k0; have q6 := hx.cell k6; have q7 := hx.cell k7; have r0 := hx.cell d0; have r6 := hx.cell d6; have r7 := hx.cell d7; clear hx; go_simp; try rfl)
                      simp only [Act.put, List.setIfInBounds_toArray, List.set_cons_zero, List.set_cons_succ]
                      refine hl_take_np 1 (by kernel_rfl) (by kernel_rfl) rfl (by kernel_rfl) hs0 (v := ?_) ?_ ?_
                      rotate_left
                      · (rintro x hx; have q0 := hx.cell k0; have q6 := hx.cell k6; have q7 := hx.cell k7; have r0 := hx.cell d0; have r6 := hx.cell d6; have r7 := hx.cell d7; clear hx; go_simp; try rfl)
                      simp only [Act.put, List.setIfInBounds_toArray, List.set_cons_zero, List.set_cons_succ]
                      refine hl_take_np 2 (by kernel_rfl) (by kernel_rfl) rfl (by kernel_rfl) hs0 (v := ?_) ?_ ?_
                      rotate_left
                      · (rintro x hx; have q0 := hx.cell k0; have q6 := hx.cell k6; have q7 := hx.cell k7; have r0 := hx.cell d0; have r6 := hx.cell d6; have r7 := hx.cell d7; clear hx; go_simp; try rfl)
                      simp only [Act.put, List.setIfInBounds_toArray, List.set_cons_zero, List.set_cons_succ]
                      refine hl_take_np 3 (by kernel_rfl) (by kernel_rfl) rfl (by kernel_rfl) hs0 (v := ?_) ?_ ?_
                      rotate_left
                      · (rintro x hx; have q0 := hx.cell k0; have q6 := hx.cell k6; have q7 := hx.cell k7; have r0 := hx.cell d0; have r6 := hx.cell d6; have r7 := hx.cell d7; clear hx; go_simp; try rfl)
                      simp only [Act.put, List.setIfInBounds_toArray, List.set_cons_zero, List.set_cons_succ]
                      refine hl_take_np 4 (by kernel_rfl) (by kernel_rfl) rfl (by kernel_rfl) hs0 (v := ?_) ?_ ?_
                      rotate_left
                      · (rintro x hx; have q0 := hx.cell k0; have q6 := hx.cell k6; have q7 := hx.cell k7; have r0 := hx.cell d0; have r6 := hx.cell d6; have r7 := hx.cell d7; clear hx; go_simp; try rfl)
                      simp only [Act.put, List.setIfInBounds_toArray, List.set_cons_zero, List.set_cons_succ]
                      refine hl_take_np 5 (by kernel_rfl) (by kernel_rfl) rfl (by kernel_rfl) hs0 (v := ?_) ?_ ?_
                      rotate_left
                      · (rintro x hx; have q0 := hx.cell k0; have q6 := hx.cell k6; have q7 := hx.cell k7; have r0 := hx.cell d0; have r6 := hx.cell d6; have r7 := hx.cell d7; clear hx; go_simp; try rfl)
                      simp only [Act.put, List.setIfInBounds_toArray, List.set_cons_zero, List.set_cons_succ]
                      refine hl_take_np 6 (by kernel_rfl) (by kernel_rfl) rfl (by kernel_rfl) hs0 (v := ?_) ?_ ?_
                      rotate_left
                      · (rintro x hx; have q0 := hx.cell k0; have q6 := hx.cell k6; have q7 := hx.cell k7; have r0 := hx.cell d0; have r6 := hx.cell d6; have r7 := hx.cell d7; clear hx; go_simp; try rfl)
                      simp only [Act.put, List.setIfInBounds_toArray, List.set_cons_zero, List.set_cons_succ]
                      refine hl_take_np 7 (by kernel_rfl) (by kernel_rfl) rfl (by kernel_rfl) hs0 (v := ?_) ?_ ?_
                      rotate_left
                      · (rintro x hx; have q0 := hx.cell k0; have q6 := hx.cell k6; have q7 := hx.cell k7; have r0 := hx.cell d0; have r6 := hx.cell d6; have r7 := hx.cell d7; clear hx; go_simp; try rfl)
                      simp only [Act.put, List.setIfInBounds_toArray, List.set_cons_zero, List.set_cons_succ]
                      refine hl_take_np 8 (by kernel_rfl) (by kernel_rfl) rfl (by kernel_rfl) hs0 (v := ?_) ?_ ?_
                      rotate_left
                      · (rintro x hx; have q0 := hx.cell k0; have q6 := hx.cell k6; have q7 := hx.cell k7; have r0 := hx.cell d0; have r6 := hx.cell d6; have r7 := hx.cell d7; clear hx; go_simp; try rfl)
                      simp only [Act.put, List.setIfInBounds_toArray, List.set_cons_zero, List.set_cons_succ]
                      refine hl_take_np 9 (by kernel_rfl) (by kernel_rfl) rfl (by kernel_rfl) hs0 (v := ?_) ?_ ?_
                      rotate_left
                      · (rintro x hx; have q0 := hx.cell k0; have q6 := hx.cell k6; have q7 := hx.cell k7; have r0 := hx.cell d0; have r6 := hx.cell d6; have r7 := hx.cell d7; clear hx; go_simp; try rfl)
                      simp only [Act.put, List.setIfInBounds_toArray, List.set_cons_zero, List.set_cons_succ]
                      refine hl_take_np 10 (by kernel_rfl) (by kernel_rfl) rfl (by kernel_rfl) hs0 (v := ?_) ?_ ?_
                      rotate_left
                      · (rintro x hx; have q0 := hx.cell k0; have q6 := hx.cell k6; have q7 := hx.cell k7; have r0 := hx.cell d0; have r6 := hx.cell d6; have r7 := hx.cell d7; clear hx; go_simp; try rfl)
                      simp only [Act.put, List.setIfInBounds_toArray, List.set_cons_zero, List.set_cons_succ]
                      refine hl_take_np 11 (by kernel_rfl) (by kernel_rfl) rfl (by kernel_rfl) hs0 (v := ?_) ?_ ?_
                      rotate_left
                      · (rintro x hx; have q0 := hx.cell k0; have q6 := hx.cell k6; have q7 := hx.cell k7; have r0 := hx.cell d0; have r6 := hx.cell d6; have r7 := hx.cell d7; clear hx; go_simp; try rfl)
                      simp only [Act.put, List.setIfInBounds_toArray, List.set_cons_zero, List.set_cons_succ]
                      refine hl_take_np 12 (by kernel_rfl) (by kernel_rfl) rfl (by kernel_rfl) hs0 (v := ?_) ?_ ?_
                      rotate_left
                      · (rintro x hx; have q0 := hx.cell k0; have q6 := hx.cell k6; have q7 := hx.cell k7; have r0 := hx.cell d0; have r6 := hx.cell d6; have r7 := hx.cell d7; clear hx; go_simp; try rfl)
                      simp only [Act.put, List.setIfInBounds_toArray, List.set_cons_zero, List.set_cons_succ]
                      refine hl_take_np 13 (by kernel_rfl) (by kernel_rfl) rfl (by kernel_rfl) hs0 (v := ?_) ?_ ?_
                      rotate_left
                      · (rintro x hx; have q0 := hx.cell k0; have q6 := hx.cell k6; have q7 := hx.cell k7; have r0 := hx.cell d0; have r6 := hx.cell d6; have r7 := hx.cell d7; clear hx; go_simp; try rfl)
                      simp only [Act.put, List.setIfInBounds_toArray, List.set_cons_zero, List.set_cons_succ]
                      refine hl_take_np 14 (by kernel_rfl) (by kernel_rfl) rfl (by kernel_rfl) hs0 (v := ?_) ?_ ?_
                      rotate_left
                      · (rintro x hx; have q0 := hx.cell k0; have q6 := hx.cell k6; have q7 := hx.cell k7; have r0 := hx.cell d0; have r6 := hx.cell d6; have r7 := hx.cell d7; clear hx; go_simp; try rfl)
                      simp only [Act.put, List.setIfInBounds_toArray, List.set_cons_zero, List.set_cons_succ]
                      refine hl_take_np 15 (by kernel_rfl) (by kernel_rfl) rfl (by kernel_rfl) hs0 (v := ?_) ?_ ?_
                      rotate_left
                      · (rintro x hx; have q0 := hx.cell k0; have q6 := hx.cell k6; have q7 := hx.cell k7; have r0 := hx.cell d0; have r6 := hx.cell d6; have r7 := hx.cell d7; clear hx; go_simp; try rfl)
                      simp only [Act.put, List.setIfInBounds_toArray, List.set_cons_zero, List.set_cons_succ]
                      refine hl_take_np 16 (by kernel_rfl) (by kernel_rfl) rfl (by kernel_rfl) hs0 (v := ?_) ?_ ?_
                      rotate_left
                      · (rintro x hx; have q0 := hx.cell k0; have q6 := hx.cell k6; have q7 := hx.cell k7; have r0 := hx.cell d0; have r6 := hx.cell d6; have r7 := hx.cell d7; clear hx; go_simp; try rfl)
                      simp only [Act.put, List.setIfInBounds_toArray, List.set_cons_zero, List.set_cons_succ]
                      refine hl_take_np 17 (by kernel_rfl) (by kernel_rfl) rfl (by kernel_rfl) hs0 (v := ?_) ?_ ?_
                      rotate_left
                      · (rintro x hx; have q0 := hx.cell k0; have q6 := hx.cell k6; have q7 := hx.cell k7; have r0 := hx.cell d0; have r6 := hx.cell d6; have r7 := hx.cell d7; clear hx; go_simp; try rfl)
                      simp only [Act.put, List.setIfInBounds_toArray, List.set_cons_zero, List.set_cons_succ]
                      refine hl_take_np 18 (by kernel_rfl) (by kernel_rfl) rfl (by kernel_rfl) hs0 (v := ?_) ?_ ?_
                      rotate_left
                      · (rintro x hx; have q0 := hx.cell k0; have q6 := hx.cell k6; have q7 := hx.cell k7; have r0 := hx.cell d0; have r6 := hx.cell d6; have r7 := hx.cell d7; clear hx; go_simp; try rfl)
                      simp only [Act.put, List.setIfInBounds_toArray, List.set_cons_zero, List.set_cons_succ]
                      refine hl_take_np 19 (by kernel_rfl) (by kernel_rfl) rfl (by kernel_rfl) hs0 (v := ?_) ?_ ?_
                      rotate_left
                      · (rintro x hx; have q0 := hx.cell k0; have q6 := hx.cell k6; have q7 := hx.cell k7; have r0 := hx.cell d0; have r6 := hx.cell d6; have r7 := hx.cell d7; clear hx; go_simp; try rfl)
                      simp only [Act.put, List.setIfInBounds_toArray, List.set_cons_zero, List.set_cons_succ]
                      refine hl_take_np 20 (by kernel_rfl) (by kernel_rfl) rfl (by kernel_rfl) hs0 (v := ?_) ?_ ?_
                      rotate_left
                      · (rintro x hx; have q0 := hx.cell k0; have q6 := hx.cell k6; have q7 := hx.cell k7; have r0 := hx.cell d0; have r6 := hx.cell d6; have r7 := hx.cell d7; clear hx; go_simp; try rfl)
                      simp only [Act.put, List.setIfInBounds_toArray, List.set_cons_zero, List.set_cons_succ]
                      refine hl_take_np 21 (by kernel_rfl) (by kernel_rfl) rfl (by kernel_rfl) hs0 (v := ?_) ?_ ?_
                      rotate_left
                      · (rintro x hx; have q0 := hx.cell k0; have q6 := hx.cell k6; have q7 := hx.cell k7; have r0 := hx.cell d0; have r6 := hx.cell d6; have r7 := hx.cell d7; clear hx; go_simp; try rfl)
                      simp only [Act.put, List.setIfInBounds_toArray, List.set_cons_zero, List.set_cons_succ]
                      refine hl_take_np 22 (by kernel_rfl) (by kernel_rfl) rfl (by kernel_rfl) hs0 (v := ?_) ?_ ?_
                      rotate_left
                      · (rintro x hx; have q0 := hx.cell k0; have q6 := hx.cell k6; have q7 := hx.cell k7; have r0 := hx.cell d0; have r6 := hx.cell d6; have r7 := hx.cell d7; clear hx; go_simp; try rfl)
                      simp only [Act.put, List.setIfInBounds_toArray, List.set_cons_zero, List.set_cons_succ]
                      refine hl_take_np 23 (by kernel_rfl) (by kernel_rfl) rfl (by kernel_rfl) hs0 (v := ?_) ?_ ?_
                      rotate_left
                      · (rintro x hx; have q0 := hx.cell k0; have q6 := hx.cell k6; have q7 := hx.cell k7; have r0 := hx.cell d0; have r6 := hx.cell d6; have r7 := hx.cell d7; clear hx; go_simp; try rfl)
                      simp only [Act.put, List.setIfInBounds_toArray, List.set_cons_zero, List.set_cons_succ]
                      refine hl_take_np 24 (by kernel_rfl) (by kernel_rfl) rfl (by kernel_rfl) hs0 (v := ?_) ?_ ?_
                      rotate_left
                      · (rintro x hx; have q0 := hx.cell k0; have q6 := hx.cell k6; have q7 := hx.cell k7; have r0 := hx.cell d0; have r6 := hx.cell d6; have r7 := hx.cell d7; clear hx; go_simp; try rfl)
                      simp only [Act.put, List.setIfInBounds_toArray, List.set_cons_zero, List.set_cons_succ]
                      refine hl_take_np 25 (by kernel_rfl) (by kernel_rfl) rfl (by kernel_rfl) hs0 (v := ?_) ?_ ?_
                      rotate_left
                      · (rintro x hx; have q0 := hx.cell k0; have q6 := hx.cell k6; have q7 := hx.cell k7; have r0 := hx.cell d0; have r6 := hx.cell d6; have r7 := hx.cell d7; clear hx; go_simp; try rfl)
                      simp only [Act.put, List.setIfInBounds_toArray, List.set_cons_zero, List.set_cons_succ]
                      refine hl_take_np 26 (by kernel_rfl) (by kernel_rfl) rfl (by kernel_rfl) hs0 (v := ?_) ?_ ?_
                      rotate_left
                      · (rintro x hx; have q0 := hx.cell k0; have q6 := hx.cell k6; have q7 := hx.cell k7; have r0 := hx.cell d0; have r6 := hx.cell d6; have r7 := hx.cell d7; clear hx; go_simp; try rfl)
                      simp only [Act.put, List.setIfInBounds_toArray, List.set_cons_zero, List.set_cons_succ]
                      refine hl_take_np 27 (by kernel_rfl) (by kernel_rfl) rfl (by kernel_rfl) hs0 (v := ?_) ?_ ?_
                      rotate_left
                      · (rintro x hx; have q0 := hx.cell k0; have q6 := hx.cell k6; have q7 := hx.cell k7; have r0 := hx.cell d0; have r6 := hx.cell d6; have r7 := hx.cell d7; clear hx; go_simp; try rfl)
                      simp only [Act.put, List.setIfInBounds_toArray, List.set_cons_zero, List.set_cons_succ]
                      refine hl_take_np 28 (by kernel_rfl) (by kernel_rfl) rfl (by kernel_rfl) hs0 (v := ?_) ?_ ?_
                      rotate_left
                      · (rintro x hx; have q0 := hx.cell k0; have q6 := hx.cell k6; have q7 := hx.cell k7; have r0 := hx.cell d0; have r6 := hx.cell d6; have r7 := hx.cell d7; clear hx; go_simp; try rfl)
                      simp only [Act.put, List.setIfInBounds_toArray, List.set_cons_zero, List.set_cons_succ]
                      refine hl_take_np 29 (by kernel_rfl) (by kernel_rfl) rfl (by kernel_rfl) hs0 (v := ?_) ?_ ?_
                      rotate_left
                      · (rintro x hx; have q0 := hx.cell k0; have q6 := hx.cell k6; have q7 := hx.cell k7; have r0 := hx.cell d0; have r6 := hx.cell d6; have r7 := hx.cell d7; clear hx; go_simp; try rfl)
                      simp only [Act.put, List.setIfInBounds_toArray, List.set_cons_zero, List.set_cons_succ]
                      refine hl_skip_np 30 (by kernel_rfl) (by kernel_rfl) rfl (by kernel_rfl) hs0 ?_
                      simp only [Act.put, List.setIfInBounds_toArray, List.set_cons_zero, List.set_cons_succ]
                      refine hl_skip_np 31 (by kernel_rfl) (by kernel_rfl) rfl (by kernel_rfl) hs0 ?_
                      simp only [Act.put, List.setIfInBounds_toArray, List.set_cons_zero, List.set_cons_succ]
                      refine hl_skip_np 32 (by kernel_rfl) (by kernel_rfl) rfl (by kernel_rfl) hs0 ?_
                      simp only [Act.put, List.setIfInBounds_toArray, List.set_cons_zero, List.set_cons_succ]
                      refine hl_take_np 33 (by kernel_rfl) (by kernel_rfl) rfl (by kernel_rfl) hs0 (v := ?_) ?_ ?_
                      rotate_left
                      · (rintro x hx; have q0 := hx.cell k0; have q6 := hx.cell k6; have q7 := hx.cell k7; have r0 := hx.cell d0; have r6 := hx.cell d6; have r7 := hx.cell d7; clear hx; go_simp; try rfl)
                      simp only [Act.put, List.setIfInBounds_toArray, List.set_cons_zero, List.set_cons_succ]
                      refine hl_take_np 34 (by kernel_rfl) (by kernel_rfl) rfl (by kernel_rfl) hs0 (v := ?_) ?_ ?_
                      rotate_left
                      · (rintro x hx; have q0 := hx.cell k0; have q6 := hx.cell k6; have q7 := hx.cell k7; have r0 := hx.cell d0; have r6 := hx.cell d6; have r7 := hx.cell d7; clear hx; go_simp; try rfl)
                      simp only [Act.put, List.setIfInBounds_toArray, List.set_cons_zero, List.set_cons_succ]
                      refine hl_take_np 35 (by kernel_rfl) (by kernel_rfl) rfl (by kernel_rfl) hs0 (v := ?_) ?_ ?_
                      rotate_left
                      · (rintro x hx; have q0 := hx.cell k0; have q6 := hx.cell k6; have q7 := hx.cell k7; have r0 := hx.cell d0; have r6 := hx.cell d6; have r7 := hx.cell d7; clear hx; go_simp; try rfl)
                      simp only [Act.put, List.setIfInBounds_toArray, List.set_cons_zero, List.set_cons_succ]
                      refine hl_take_np 36 (by kernel_rfl) (by kernel_rfl) rfl (by kernel_rfl) hs0 (v := ?_) ?_ ?_
                      rotate_left
                      · (rintro x hx; have q0 := hx.cell k0; have q6 := hx.cell k6; have q7 := hx.cell k7; have r0 := hx.cell d0; have r6 := hx.cell d6; have r7 := hx.cell d7; clear hx; go_simp; try rfl)
                      simp only [Act.put, List.setIfInBounds_toArray, List.set_cons_zero, List.set_cons_succ]
                      refine hl_take_np 37 (by kernel_rfl) (by kernel_rfl) rfl (by kernel_rfl) hs0 (v := ?_) ?_ ?_
                      rotate_left
                      · (rintro x hx; have q0 := hx.cell k0; have q6 := hx.cell k6; have q7 := hx.cell k7; have r0 := hx.cell d0; have r6 := hx.cell d6; have r7 := hx.cell d7; clear hx; go_simp; try rfl)
                      simp only [Act.put, List.setIfInBounds_toArray, List.set_cons_zero, List.set_cons_succ]
                      refine hl_take_np 38 (by kernel_rfl) (by kernel_rfl) rfl (by kernel_rfl) hs0 (v := ?_) ?_ ?_
                      rotate_left
                      · (rintro x hx; have q0 := hx.cell k0; have q6 := hx.cell k6; have q7 := hx.cell k7; have r0 := hx.cell d0; have r6 := hx.cell d6; have r7 := hx.cell d7; clear hx; go_simp; try rfl)
                      simp only [Act.put, List.setIfInBounds_toArray, List.set_cons_zero, List.set_cons_succ]
                      refine hl_take_np 39 (by kernel_rfl) (by kernel_rfl) rfl (by kernel_rfl) hs0 (v := ?_) ?_ ?_
                      rotate_left
                      · (rintro x hx; have q0 := hx.cell k0; have q6 := hx.cell k6; have q7 := hx.cell k7; have r0 := hx.cell d0; have r6 := hx.cell d6; have r7 := hx.cell d7; clear hx; go_simp; try rfl)
                      simp only [Act.put, List.setIfInBounds_toArray, List.set_cons_zero, List.set_cons_succ]
                      refine hl_take_np 40 (by kernel_rfl) (by kernel_rfl) rfl (by kernel_rfl) hs0 (v := ?_) ?_ ?_
                      rotate_left
                      · (rintro x hx; have q0 := hx.cell k0; have q6 := hx.cell k6; have q7 := hx.cell k7; have r0 := hx.cell d0; have r6 := hx.cell d6; have r7 := hx.cell d7; clear hx; go_simp; try rfl)
                      simp only [Act.put, List.setIfInBounds_toArray, List.set_cons_zero, List.set_cons_succ]
                      refine hl_take_np 41 (by kernel_rfl) (by kernel_rfl) rfl (by kernel_rfl) hs0 (v := ?_) ?_ ?_
                      rotate_left
                      · (rintro x hx; have q0 := hx.cell k0; have q6 := hx.cell k6; have q7 := hx.cell k7; have r0 := hx.cell d0; have r6 := hx.cell d6; have r7 := hx.cell d7; clear hx; go_simp; try rfl)
                      simp only [Act.put, List.setIfInBounds_toArray, List.set_cons_zero, List.set_cons_succ]
                      refine hl_skip_np 42 (by kernel_rfl) (by kernel_rfl) rfl (by kernel_rfl) hs0 ?_
                      simp only [Act.put, List.setIfInBounds_toArray, List.set_cons_zero, List.set_cons_succ]
                      refine hl_skip_np 43 (by kernel_rfl) (by kernel_rfl) rfl (by kernel_rfl) hs0 ?_
                      simp only [Act.put, List.setIfInBounds_toArray, List.set_cons_zero, List.set_cons_succ]
                      refine hl_take_np 44 (by kernel_rfl) (by kernel_rfl) rfl (by kernel_rfl) hs0 (v := ?_) ?_ ?_
                      rotate_left
                      · (rintro x hx; have q0 := hx.cell k0; have q6 := hx.cell k6; have q7 := hx.cell k7; have r0 := hx.cell d0; have r6 := hx.cell d6; have r7 := hx.cell d7; clear hx; go_simp; try rfl)
                      simp only [Act.put, List.setIfInBounds_toArray, List.set_cons_zero, List.set_cons_succ]
                      refine hl_take_np 45 (by kernel_rfl) (by kernel_rfl) rfl (by kernel_rfl) hs0 (v := ?_) ?_ ?_
                      rotate_left
                      · (rintro x hx; have q0 := hx.cell k0; have q6 := hx.cell k6; have q7 := hx.cell k7; have r0 := hx.cell d0; have r6 := hx.cell d6; have r7 := hx.cell d7; clear hx; go_simp; try rfl)
                      simp only [Act.put, List.setIfInBounds_toArray, List.set_cons_zero, List.set_cons_succ]
                      refine hl_skip_np 46 (by kernel_rfl) (by kernel_rfl) rfl (by kernel_rfl) hs0 ?_
                      simp only [Act.put, List.setIfInBounds_toArray, List.set_cons_zero, List.set_cons_succ]
                      refine hl_skip_np 47 (by kernel_rfl) (by kernel_rfl) rfl (by kernel_rfl) hs0 ?_
                      simp only [Act.put, List.setIfInBounds_toArray, List.set_cons_zero, List.set_cons_succ]
                      refine hl_skip_np 48 (by kernel_rfl) (by kernel_rfl) rfl (by kernel_rfl) hs0 ?_
                      simp only [Act.put, List.setIfInBounds_toArray, List.set_cons_zero, List.set_cons_succ]
                      refine hl_skip_np 49 (by kernel_rfl) (by kernel_rfl) rfl (by kernel_rfl) hs0 ?_
                      simp only [Act.put, List.setIfInBounds_toArray, List.set_cons_zero, List.set_cons_succ]
                      refine hl_skip_np 50 (by kernel_rfl) (by kernel_rfl) rfl (by kernel_rfl) hs0 ?_
                      simp only [Act.put, List.setIfInBounds_toArray, List.set_cons_zero, List.set_cons_succ]
                      refine hl_skip_np 51 (by kernel_rfl) (by kernel_rfl) rfl (by kernel_rfl) hs0 ?_
                      simp only [Act.put, List.setIfInBounds_toArray, List.set_cons_zero, List.set_cons_succ]
                      refine hl_skip_np 52 (by kernel_rfl) (by kernel_rfl) rfl (by kernel_rfl) hs0 ?_
                      simp only [Act.put, List.setIfInBounds_toArray, List.set_cons_zero, List.set_cons_succ]
                      refine hl_skip_np 53 (by kernel_rfl) (by kernel_rfl) rfl (by kernel_rfl) hs0 ?_
                      simp only [Act.put, List.setIfInBounds_toArray, List.set_cons_zero, List.set_cons_succ]
                      refine hl_skip_np 54 (by kernel_rfl) (by kernel_rfl) rfl (by kernel_rfl) hs0 ?_
                      simp only [Act.put, List.setIfInBounds_toArray, List.set_cons_zero, List.set_cons_succ]
                      refine hl_take_np 55 (by kernel_rfl) (by kernel_rfl) rfl (by kernel_rfl) hs0 (v := ?_) ?_ ?_
                      rotate_left
                      · (rintro x hx; have q0 := hx.cell k0; have q6 := hx.cell k6; have q7 := hx.cell k7; have r0 := hx.cell d0; have r6 := hx.cell d6; have r7 := hx.cell d7; clear hx; go_simp; try rfl)
                      simp only [Act.put, List.setIfInBounds_toArray, List.set_cons_zero, List.set_cons_succ]
                      refine hl_take_np 56 (by kernel_rfl) (by kernel_rfl) rfl (by kernel_rfl) hs0 (v := ?_) ?_ ?_
                      rotate_left
                      · (rintro x hx; have q0 := hx.cell k0; have q6 := hx.cell k6; have q7 := hx.cell k7; have r0 := hx.cell d0; have r6 := hx.cell d6; have r7 := hx.cell d7; clear hx; go_simp; try rfl)
                      simp only [Act.put, List.setIfInBounds_toArray, List.set_cons_zero, List.set_cons_succ]
                      refine hl_take_np 57 (by kernel_rfl) (by kernel_rfl) rfl (by kernel_rfl) hs0 (v := ?_) ?_ ?_
                      rotate_left
                      · (rintro x hx; have q0 := hx.cell k0; have q6 := hx.cell k6; have q7 := hx.cell k7; have r0 := hx.cell d0; have r6 := hx.cell d6; have r7 := hx.cell d7; clear hx; go_simp; try rfl)
                      simp only [Act.put, List.setIfInBounds_toArray, List.set_cons_zero, List.set_cons_succ]
                      refine hl_take_np 58 (by kernel_rfl) (by kernel_rfl) rfl (by kernel_rfl) hs0 (v := ?_) ?_ ?_
                      rotate_left
                      · (rintro x hx; have q0 := hx.cell k0; have q6 := hx.cell k6; have q7 := hx.cell k7; have r0 := hx.cell d0; have r6 := hx.cell d6; have r7 := hx.cell d7; clear hx; go_simp; try rfl)
                      simp only [Act.put, List.setIfInBounds_toArray, List.set_cons_zero, List.set_cons_succ]
                      refine hl_take_np 59 (by kernel_rfl) (by kernel_rfl) rfl (by kernel_rfl) hs0 (v := ?_) ?_ ?_
                      rotate_left
                      · (rintro x hx; have q0 := hx.cell k0; have q6 := hx.cell k6; have q7 := hx.cell k7; have r0 := hx.cell d0; have r6 := hx.cell d6; have r7 := hx.cell d7; clear hx; go_simp; try rfl)
                      simp only [Act.put, List.setIfInBounds_toArray, List.set_cons_zero, List.set_cons_succ]
                      refine hl_done (by kernel_rfl) ?_ _
                      refine NoPanic.normal ?_
                      replace k0 := hs0.cell k0
                      replace k1 := hs0.cell k1
                      replace k2 := hs0.cell k2
                      replace k3 := hs0.cell k3
                      replace k4 := hs0.cell k4
                      replace k5 := hs0.cell k5
                      replace k6 := hs0.cell k6
                      replace k7 := hs0.cell k7
                      have HGZ := Lib.hid (HGY.out.trans hs0)
                      have HXZ := Lib.hid (HXE.out.g hs0)
                      clear d0 d6 d7
                      generalize wy.drew = wz at k0 k1 k2 k3 k4 k5 k6 k7 HGZ HXZ ⊢
                      clear hs0 HGY HXE
                      obtain ⟨t, q, sl, hy1, hsl1, hsl2, hsl3, hsl4, hta, ht0, htb⟩ := HFA.out.close (j + 1) _ HEV.out rfl
                      obtain rfl : xq = q := congrArg (fun z : PEv => z.2.2.1) hy1
                      obtain rfl : xa = t := congrArg (fun z : PEv => z.2.2.2) hy1
                      have hyo : outE ⟨xf, xt, xl, xm, .slice pv nv cv, xps⟩ = outE zE.1 := congrArg (fun z : PEv => z.2.1) hy1
                      have HSE : Hid (∀ X, G wz X → Calls Try.prog 22 #[.agg #[.string xf, .string xt, .string xl, .int .i64 xm, .slice pv nv cv], .agg #[.string ⟨#[]⟩, .string ⟨#[]⟩, .string ⟨#[]⟩, .int .i64 0, .slice none 0 0]] X fun e' w' => e' = .returned (.bool true) ∧ G X w') := Lib.hid (fun X hX => by
                        have h1 := sameE_any _ zE.1 X (HXZ.out.g hX) ⟨Rdr.nil _ _ _ _, Nat.zero_le _, fun p hp => (by cases hp), Nat.zero_le _, Nat.zero_le _, Nat.zero_le _⟩
                        rw [sameE_yes hyo] at h1
                        exact h1)
                      have HSL := Lib.hid (slide_any l _ xq wz (H3.out.g (HGW5.out.trans HGZ.out)) (by have := HM.out; omega))
                      rw [hsl1] at HSL
                      have hsl0 : ¬ sl = 0 := by omega
                      have hta' : ¬ xa ≤ a := by omega
                      have htb' : ¬ b < xa := by omega
                      have ht0' : ¬ xa = 0 := by omega
                      have hslb : (sl == 0) = false := by simpa using hsl0
                      have hxab : (xa == 0) = false := by simpa using ht0'
                      have hrem : IntKind.i64.wrap (xa.tmod sl) = 0 := by
                        rw [Int.tmod_eq_emod_of_nonneg (by omega), hsl4]; exact IntWalk.i64_in _ (by omega)
                      have HK2 : Hid (kk = nE (evs.take (j + 1 + 1))) := Lib.hid (by rw [HKN.out, ← HKK.out]; rfl)
                      clear hy1 hyo hsl1
                      go_wp2_with fail
                      refine HSL.out.mono ?_
                      rintro e0 w6 ⟨rfl, rfl⟩
                      go_wp2_with fail
                      refine (HSE.out _ (G.refl _)).mono ?_
                      rintro e0 w7 ⟨rfl, hg7⟩
                      have HG7 := Lib.hid (HGZ.out.trans hg7)
                      clear hg7 k0 k1 k2 k3 k4 k5 k6 k7 HSE HSL hrem hsl4
                      go_wp2_with fail
                      go_roundw
                      case rel => exact ⟨j + 1 + 1, kk, mm + 1, rfl, by go_num, by go_num, by omega, HK2, by omega, HG7⟩
                      case measure => simp [intOf]; omega
                  · have hq2 : ¬ xq ≤ yq := by omega
                    as_aux_lemma =>
                      refine region_hl (fun w' => G wy w') 99 60 (by kernel_rfl) rfl ?_
                      simp only [List.replicate_succ, List.replicate_zero]
                      have hs0 : (fun w' : World => G wy w') wy.drew := (G.refl wy).drew
                      refine hl_take_np 0 (by kernel_rfl) (by kernel_rfl) rfl (by kernel_rfl) hs0 (v := ?_) ?_ ?_
                      rotate_left
                      · (rintro x hx; have q0 := hx.cell k0; have q6 := hx.cell k6; have q7 := hx.cell k7; have r0 := hx.cell d0; have r6 := hx.cell d6; have r7 := hx.cell d7; clear hx; go_simp; try rfl)
                      simp only [Act.put, List.setIfInBounds_toArray, List.set_cons_zero, List.set_cons_succ]
                      refine hl_take_np 1 (by kernel_rfl) (by kernel_rfl) rfl (by kernel_rfl) hs0 (v := ?_) ?_ ?_
                      rotate_left
                      · (rintro x hx; have q0 := hx.cell k0; have q6 := hx.cell k6; have q7 := hx.cell k7; have r0 := hx.cell d0; have r6 := hx.cell d6; have r7 := hx.cell d7; clear hx; go_simp; try rfl)
                      simp only [Act.put, List.setIfInBounds_toArray, List.set_cons_zero, List.set_cons_succ]
                      refine hl_take_np 2 (by kernel_rfl) (by kernel_rfl) rfl (by kernel_rfl) hs0 (v := ?_) ?_ ?_
                      rotate_left
                      · (rintro x hx; have q0 := hx.cell k0; have q6 := hx.cell k6; have q7 := hx.cell k7; have r0 := hx.cell d0; have r6 := hx.cell d6; have r7 := hx.cell d7; clear hx; go_simp; try rfl)
                      simp only [Act.put, List.setIfInBounds_toArray, List.set_cons_zero, List.set_cons_succ]
                      refine hl_take_np 3 (by kernel_rfl) (by kernel_rfl) rfl (by kernel_rfl) hs0 (v := ?_) ?_ ?_
                      rotate_left
                      · (rintro x hx; have q0 := hx.cell k0; have q6 := hx.cell k6; have q7 := hx.cell k7; have r0 := hx.cell d0; have r6 := hx.cell d6; have r7 := hx.cell d7; clear hx; go_simp; try rfl)
                      simp only [Act.put, List.setIfInBounds_toArray, List.set_cons_zero, List.set_cons_succ]
                      refine hl_take_np 4 (by kernel_rfl) (by kernel_rfl) rfl (by kernel_rfl) hs0 (v := ?_) ?_ ?_
                      rotate_left
                      · (rintro x hx; have q0 := hx.cell k0; have q6 := hx.cell k6; have q7 := hx.cell k7; have r0 := hx.cell d0; have r6 := hx.cell d6; have r7 := hx.cell d7; clear hx; go_simp; try rfl)
                      simp only [Act.put, List.setIfInBounds_toArray, List.set_cons_zero, List.set_cons_succ]
                      refine hl_take_np 5 (by kernel_rfl) (by kernel_rfl) rfl (by kernel_rfl) hs0 (v := ?_) ?_ ?_
                      rotate_left
                      · (rintro x hx; have q0 := hx.cell k0; have q6 := hx.cell k6; have q7 := hx.cell k7; have r0 := hx.cell d0; have r6 := hx.cell d6; have r7 := hx.cell d7; clear hx; go_simp; try rfl)
                      simp only [Act.put, List.setIfInBounds_toArray, List.set_cons_zero, List.set_cons_succ]
                      refine hl_take_np 6 (by kernel_rfl) (by kernel_rfl) rfl (by kernel_rfl) hs0 (v := ?_) ?_ ?_
                      rotate_left
                      · (rintro x hx; have q0 := hx.cell k0; have q6 := hx.cell k6; have q7 := hx.cell k7; have r0 := hx.cell d0; have r6 := hx.cell d6; have r7 := hx.cell d7; clear hx; go_simp; try rfl)
                      simp only [Act.put, List.setIfInBounds_toArray, List.set_cons_zero, List.set_cons_succ]
                      refine hl_take_np 7 (by kernel_rfl) (by kernel_rfl) rfl (by kernel_rfl) hs0 (v := ?_) ?_ ?_
                      rotate_left
                      · (rintro x hx; have q0 := hx.cell k0; have q6 := hx.cell k6; have q7 := hx.cell k7; have r0 := hx.cell d0; have r6 := hx.cell d6; have r7 := hx.cell d7; clear hx; go_simp; try rfl)
                      simp only [Act.put, List.setIfInBounds_toArray, List.set_cons_zero, List.set_cons_succ]
                      refine hl_take_np 8 (by kernel_rfl) (by kernel_rfl) rfl (by kernel_rfl) hs0 (v := ?_) ?_ ?_
                      rotate_left
                      · (rintro x hx; have q0 := hx.cell k0; have q6 := hx.cell k6; have q7 := hx.cell k7; have r0 := hx.cell d0; have r6 := hx.cell d6; have r7 := hx.cell d7; clear hx; go_simp; try rfl)
                      simp only [Act.put, List.setIfInBounds_toArray, List.set_cons_zero, List.set_cons_succ]
                      refine hl_take_np 9 (by kernel_rfl) (by kernel_rfl) rfl (by kernel_rfl) hs0 (v := ?_) ?_ ?_
                      rotate_left
                      · (rintro x hx; have q0 := hx.cell k0; have q6 := hx.cell k6; have q7 := hx.cell k7; have r0 := hx.cell d0; have r6 := hx.cell d6; have r7 := hx.cell d7; clear hx; go_simp; try rfl)
                      simp only [Act.put, List.setIfInBounds_toArray, List.set_cons_zero, List.set_cons_succ]
                      refine hl_take_np 10 (by kernel_rfl) (by kernel_rfl) rfl (by kernel_rfl) hs0 (v := ?_) ?_ ?_
                      rotate_left
                      · (rintro x hx; have q0 := hx.cell k0; have q6 := hx.cell k6; have q7 := hx.cell k7; have r0 := hx.cell d0; have r6 := hx.cell d6; have r7 := hx.cell d7; clear hx; go_simp; try rfl)
                      simp only [Act.put, List.setIfInBounds_toArray, List.set_cons_zero, List.set_cons_succ]
                      refine hl_take_np 11 (by kernel_rfl) (by kernel_rfl) rfl (by kernel_rfl) hs0 (v := ?_) ?_ ?_
                      rotate_left
                      · (rintro x hx; have q0 := hx.cell k0; have q6 := hx.cell k6; have q7 := hx.cell k7; have r0 := hx.cell d0; have r6 := hx.cell d6; have r7 := hx.cell d7; clear hx; go_simp; try rfl)
                      simp only [Act.put, List.setIfInBounds_toArray, List.set_cons_zero, List.set_cons_succ]
                      refine hl_take_np 12 (by kernel_rfl) (by kernel_rfl) rfl (by kernel_rfl) hs0 (v := ?_) ?_ ?_
                      rotate_left
                      · (rintro x hx; have q0 := hx.cell k0; have q6 := hx.cell k6; have q7 := hx.cell k7; have r0 := hx.cell d0; have r6 := hx.cell d6; have r7 := hx.cell d7; clear hx; go_simp; try rfl)
                      simp only [Act.put, List.setIfInBounds_toArray, List.set_cons_zero, List.set_cons_succ]
                      refine hl_take_np 13 (by kernel_rfl) (by kernel_rfl) rfl (by kernel_rfl) hs0 (v := ?_) ?_ ?_
                      rotate_left
                      · (rintro x hx; have q0 := hx.cell k0; have q6 := hx.cell k6; have q7 := hx.cell k7; have r0 := hx.cell d0; have r6 := hx.cell d6; have r7 := hx.cell d7; clear hx; go_simp; try rfl)
                      simp only [Act.put, List.setIfInBounds_toArray, List.set_cons_zero, List.set_cons_succ]
                      refine hl_take_np 14 (by kernel_rfl) (by kernel_rfl) rfl (by kernel_rfl) hs0 (v := ?_) ?_ ?_
                      rotate_left
                      · (rintro x hx; have q0 := hx.cell k0; have q6 := hx.cell k6; have q7 := hx.cell k7; have r0 := hx.cell d0; have r6 := hx.cell d6; have r7 := hx.cell d7; clear hx; go_simp; try rfl)
                      simp only [Act.put, List.setIfInBounds_toArray, List.set_cons_zero, List.set_cons_succ]
                      refine hl_take_np 15 (by kernel_rfl) (by kernel_rfl) rfl (by kernel_rfl) hs0 (v := ?_) ?_ ?_
                      rotate_left
                      · (rintro x hx; have q0 := hx.cell k0; have q6 := hx.cell k6; have q7 := hx.cell k7; have r0 := hx.cell d0; have r6 := hx.cell d6; have r7 := hx.cell d7; clear hx; go_simp; try rfl)
                      simp only [Act.put, List.setIfInBounds_toArray, List.set_cons_zero, List.set_cons_succ]
                      refine hl_take_np 16 (by kernel_rfl) (by kernel_rfl) rfl (by kernel_rfl) hs0 (v := ?_) ?_ ?_
                      rotate_left
                      · (rintro x hx; have q0 := hx.cell k0; have q6 := hx.cell k6; have q7 := hx.cell k7; have r0 := hx.cell d0; have r6 := hx.cell d6; have r7 := hx.cell d7; clear hx; go_simp; try rfl)
                      simp only [Act.put, List.setIfInBounds_toArray, List.set_cons_zero, List.set_cons_succ]
                      refine hl_take_np 17 (by kernel_rfl) (by kernel_rfl) rfl (by kernel_rfl) hs0 (v := ?_) ?_ ?_
                      rotate_left
                      · (rintro x hx; have q0 := hx.cell k0; have q6 := hx.cell k6; have q7 := hx.cell k7; have r0 := hx.cell d0; have r6 := hx.cell d6; have r7 := hx.cell d7; clear hx; go_simp; try rfl)
                      simp only [Act.put, List.setIfInBounds_toArray, List.set_cons_zero, List.set_cons_succ]
                      refine hl_take_np 18 (by kernel_rfl) (by kernel_rfl) rfl (by kernel_rfl) hs0 (v := ?_) ?_ ?_
                      rotate_left
                      · (rintro x hx; have q0 := hx.cell k0; have q6 := hx.cell k6; have q7 := hx.cell k7; have r0 := hx.cell d0; have r6 := hx.cell d6; have r7 := hx.cell d7; clear hx; go_simp; try rfl)
                      simp only [Act.put, List.setIfInBounds_toArray, List.set_cons_zero, List.set_cons_succ]
                      refine hl_take_np 19 (by kernel_rfl) (by kernel_rfl) rfl (by kernel_rfl) hs0 (v := ?_) ?_ ?_
                      rotate_left
                      · (rintro x hx; have q0 := hx.cell k0; have q6 := hx.cell k6; have q7 := hx.cell k7; have r0 := hx.cell d0; have r6 := hx.cell d6; have r7 := hx.cell d7; clear hx; go_simp; try rfl)
                      simp only [Act.put, List.setIfInBounds_toArray, List.set_cons_zero, List.set_cons_succ]
                      refine hl_take_np 20 (by kernel_rfl) (by kernel_rfl) rfl (by kernel_rfl) hs0 (v := ?_) ?_ ?_
                      rotate_left
                      · (rintro x hx; have q0 := hx.cell k0; have q6 := hx.cell k6; have q7 := hx.cell k7; have r0 := hx.cell d0; have r6 := hx.cell d6; have r7 := hx.cell d7; clear hx; go_simp; try rfl)
                      simp only [Act.put, List.setIfInBounds_toArray, List.set_cons_zero, List.set_cons_succ]
                      refine hl_take_np 21 (by kernel_rfl) (by kernel_rfl) rfl (by kernel_rfl) hs0 (v := ?_) ?_ ?_
                      rotate_left
                      · (rintro x hx; have q0 := hx.cell k0; have q6 := hx.cell k6; have q7 := hx.cell k7; have r0 := hx.cell d0; have r6 := hx.cell d6; have r7 := hx.cell d7; clear hx; go_simp; try rfl)
                      simp only [Act.put, List.setIfInBounds_toArray, List.set_cons_zero, List.set_cons_succ]
                      refine hl_take_np 22 (by kernel_rfl) (by kernel_rfl) rfl (by kernel_rfl) hs0 (v := ?_) ?_ ?_
                      rotate_left
                      · (rintro x hx; have q0 := hx.cell k0; have q6 := hx.cell k6; have q7 := hx.cell k7; have r0 := hx.cell d0; have r6 := hx.cell d6; have r7 := hx.cell d7; clear hx; go_simp; try rfl)
                      simp only [Act.put, List.setIfInBounds_toArray, List.set_cons_zero, List.set_cons_succ]
                      refine hl_take_np 23 (by kernel_rfl) (by kernel_rfl) rfl (by kernel_rfl) hs0 (v := ?_) ?_ ?_
                      rotate_left
                      · (rintro x hx; have q0 := hx.cell k0; have q6 := hx.cell k6; have q7 := hx.cell k7; have r0 := hx.cell d0; have r6 := hx.cell d6; have r7 := hx.cell d7; clear hx; go_simp; try rfl)
                      simp only [Act.put, List.setIfInBounds_toArray, List.set_cons_zero, List.set_cons_succ]
                      refine hl_take_np 24 (by kernel_rfl) (by kernel_rfl) rfl (by kernel_rfl) hs0 (v := ?_) ?_ ?_
                      rotate_left
                      · (rintro x hx; have q0 := hx.cell k0; have q6 := hx.cell k6; have q7 := hx.cell k7; have r0 := hx.cell d0; have r6 := hx.cell d6; have r7 := hx.cell d7; clear hx; go_simp; try rfl)
                      simp only [Act.put, List.setIfInBounds_toArray, List.set_cons_zero, List.set_cons_succ]
                      refine hl_take_np 25 (by kernel_rfl) (by kernel_rfl) rfl (by kernel_rfl) hs0 (v := ?_) ?_ ?_
                      rotate_left
                      · (rintro x hx; have q0 := hx.cell k0; have q6 := hx.cell k6; have q7 := hx.cell k7; have r0 := hx.cell d0; have r6 := hx.cell d6; have r7 := hx.cell d7; clear hx; go_simp; try rfl)
                      simp only [Act.put, List.setIfInBounds_toArray, List.set_cons_zero, List.set_cons_succ]
                      refine hl_take_np 26 (by kernel_rfl) (by kernel_rfl) rfl (by kernel_rfl) hs0 (v := ?_) ?_ ?_
                      rotate_left
                      · (rintro x hx; have q0 := hx.cell k0; have q6 := hx.cell k6; have q7 := hx.cell k7; have r0 := hx.cell d0; have r6 := hx.cell d6; have r7 := hx.cell d7; clear hx; go_simp; try rfl)
                      simp only [Act.put, List.setIfInBounds_toArray, List.set_cons_zero, List.set_cons_succ]
                      refine hl_take_np 27 (by kernel_rfl) (by kernel_rfl) rfl (by kernel_rfl) hs0 (v := ?_) ?_ ?_
                      rotate_left
                      · (rintro x hx; have q0 := hx.cell k0; have q6 := hx.cell k6; have q7 := hx.cell k7; have r0 := hx.cell d0; have r6 := hx.cell d6; have r7 := hx.cell d7; clear hx; go_simp; try rfl)
                      simp only [Act.put, List.setIfInBounds_toArray, List.set_cons_zero, List.set_cons_succ]
                      refine hl_take_np 28 (by kernel_rfl) (by kernel_rfl) rfl (by kernel_rfl) hs0 (v := ?_) ?_ ?_
                      rotate_left
                      · (rintro x hx; have q0 := hx.cell k0; have q6 := hx.cell k6; have q7 := hx.cell k7; have r0 := hx.cell d0; have r6 := hx.cell d6; have r7 := hx.cell d7; clear hx; go_simp; try rfl)
                      simp only [Act.put, List.setIfInBounds_toArray, List.set_cons_zero, List.set_cons_succ]
                      refine hl_take_np 29 (by kernel_rfl) (by kernel_rfl) rfl (by kernel_rfl) hs0 (v := ?_) ?_ ?_
                      rotate_left
                      · (rintro x hx; have q0 := hx.cell k0; have q6 := hx.cell k6; have q7 := hx.cell k7; have r0 := hx.cell d0; have r6 := hx.cell d6; have r7 := hx.cell d7; clear hx; go_simp; try rfl)
                      simp only [Act.put, List.setIfInBounds_toArray, List.set_cons_zero, List.set_cons_succ]
                      refine hl_take_np 30 (by kernel_rfl) (by kernel_rfl) rfl (by kernel_rfl) hs0 (v := ?_) ?_ ?_
                      rotate_left
                      · (rintro x hx; have q0 := hx.cell k0; have q6 := hx.cell k6; have q7 := hx.cell k7; have r0 := hx.cell d0; have r6 := hx.cell d6; have r7 := hx.cell d7; clear hx; go_simp; try rfl)
                      simp only [Act.put, List.setIfInBounds_toArray, List.set_cons_zero, List.set_cons_succ]
                      refine hl_take_np 31 (by kernel_rfl) (by kernel_rfl) rfl (by kernel_rfl) hs0 (v := ?_) ?_ ?_
                      rotate_left
                      · (rintro x hx; have q0 := hx.cell k0; have q6 := hx.cell k6; have q7 := hx.cell k7; have r0 := hx.cell d0; have r6 := hx.cell d6; have r7 := hx.cell d7; clear hx; go_simp; try rfl)
                      simp only [Act.put, List.setIfInBounds_toArray, List.set_cons_zero, List.set_cons_succ]
                      refine hl_take_np 32 (by kernel_rfl) (by kernel_rfl) rfl (by kernel_rfl) hs0 (v := ?_) ?_ ?_
                      rotate_left
                      · (rintro x hx; have q0 := hx.cell k0; have q6 := hx.cell k6; have q7 := hx.cell k7; have r0 := hx.cell d0; have r6 := hx.cell d6; have r7 := hx.cell d7; clear hx; go_simp; try rfl)
                      simp only [Act.put, List.setIfInBounds_toArray, List.set_cons_zero, List.set_cons_succ]
                      refine hl_take_np 33 (by kernel_rfl) (by kernel_rfl) rfl (by kernel_rfl) hs0 (v := ?_) ?_ ?_
                      rotate_left
                      · (rintro x hx; have q0 := hx.cell k0; have q6 := hx.cell k6; have q7 := hx.cell k7; have r0 := hx.cell d0; have r6 := hx.cell d6; have r7 := hx.cell d7; clear hx; go_simp; try rfl)
                      simp only [Act.put, List.setIfInBounds_toArray, List.set_cons_zero, List.set_cons_succ]
                      refine hl_take_np 34 (by kernel_rfl) (by kernel_rfl) rfl (by kernel_rfl) hs0 (v := ?_) ?_ ?_
                      rotate_left
                      · (rintro x hx; have q0 := hx.cell k0; have q6 := hx.cell k6; have q7 := hx.cell k7; have r0 := hx.cell d0; have r6 := hx.cell d6; have r7 := hx.cell d7; clear hx; go_simp; try rfl)
                      simp only [Act.put, List.setIfInBounds_toArray, List.set_cons_zero, List.set_cons_succ]
                      refine hl_take_np 35 (by kernel_rfl) (by kernel_rfl) rfl (by kernel_rfl) hs0 (v := ?_) ?_ ?_
                      rotate_left
                      · (rintro x hx; have q0 := hx.cell k0; have q6 := hx.cell k6; have q7 := hx.cell k7; have r0 := hx.cell d0; have r6 := hx.cell d6; have r7 := hx.cell d7; clear hx; go_simp; try rfl)
                      simp only [Act.put, List.setIfInBounds_toArray, List.set_cons_zero, List.set_cons_succ]
                      refine hl_take_np 36 (by kernel_rfl) (by kernel_rfl) rfl (by kernel_rfl) hs0 (v := ?_) ?_ ?_
                      rotate_left
                      · (rintro x hx; have q0 := hx.cell k0; have q6 := hx.cell k6; have q7 := hx.cell k7; have r0 := hx.cell d0; have r6 := hx.cell d6; have r7 := hx.cell d7; clear hx; go_simp; try rfl)
                      simp only [Act.put, List.setIfInBounds_toArray, List.set_cons_zero, List.set_cons_succ]
                      refine hl_take_np 37 (by kernel_rfl) (by kernel_rfl) rfl (by kernel_rfl) hs0 (v := ?_) ?_ ?_
                      rotate_left
                      · (rintro x hx; have q0 := hx.cell k0; have q6 := hx.cell k6; have q7 := hx.cell k7; have r0 := hx.cell d0; have r6 := hx.cell d6; have r7 := hx.cell d7; clear hx; go_simp; try rfl)
                      simp only [Act.put, List.setIfInBounds_toArray, List.set_cons_zero, List.set_cons_succ]
                      refine hl_take_np 38 (by kernel_rfl) (by kernel_rfl) rfl (by kernel_rfl) hs0 (v := ?_) ?_ ?_
                      rotate_left
                      · (rintro x hx; have q0 := hx.cell k0; have q6 := hx.cell k6; have q7 := hx.cell k7; have r0 := hx.cell d0; have r6 := hx.cell d6; have r7 := hx.cell d7; clear hx; go_simp; try rfl)
                      simp only [Act.put, List.setIfInBounds_toArray, List.set_cons_zero, List.set_cons_succ]
                      refine hl_take_np 39 (by kernel_rfl) (by kernel_rfl) rfl (by kernel_rfl) hs0 (v := ?_) ?_ ?_
                      rotate_left
                      · (rintro x hx; have q0 := hx.cell k0; have q6 := hx.cell k6; have q7 := hx.cell k7; have r0 := hx.cell d0; have r6 := hx.cell d6; have r7 := hx.cell d7; clear hx; go_simp; try rfl)
                      simp only [Act.put, List.setIfInBounds_toArray, List.set_cons_zero, List.set_cons_succ]
                      refine hl_take_np 40 (by kernel_rfl) (by kernel_rfl) rfl (by kernel_rfl) hs0 (v := ?_) ?_ ?_
                      rotate_left
                      · (rintro x hx; have q0 := hx.cell k0; have q6 := hx.cell k6; have q7 := hx.cell k7; have r0 := hx.cell d0; have r6 := hx.cell d6; have r7 := hx.cell d7; clear hx; go_simp; try rfl)
                      simp only [Act.put, List.setIfInBounds_toArray, List.set_cons_zero, List.set_cons_succ]
                      refine hl_take_np 41 (by kernel_rfl) (by kernel_rfl) rfl (by kernel_rfl) hs0 (v := ?_) ?_ ?_
                      rotate_left
                      · (rintro x hx; have q0 := hx.cell k0; have q6 := hx.cell k6; have q7 := hx.cell k7; have r0 := hx.cell d0; have r6 := hx.cell d6; have r7 := hx.cell d7; clear hx; go_simp; try rfl)
                      simp only [Act.put, List.setIfInBounds_toArray, List.set_cons_zero, List.set_cons_succ]
                      refine hl_take_np 42 (by kernel_rfl) (by kernel_rfl) rfl (by kernel_rfl) hs0 (v := ?_) ?_ ?_
                      rotate_left
                      · (rintro x hx; have q0 := hx.cell k0; have q6 := hx.cell k6; have q7 := hx.cell k7; have r0 := hx.cell d0; have r6 := hx.cell d6; have r7 := hx.cell d7; clear hx; go_simp; try rfl)
                      simp only [Act.put, List.setIfInBounds_toArray, List.set_cons_zero, List.set_cons_succ]
                      refine hl_take_np 43 (by kernel_rfl) (by kernel_rfl) rfl (by kernel_rfl) hs0 (v := ?_) ?_ ?_
                      rotate_left
                      · (rintro x hx; have q0 := hx.cell k0; have q6 := hx.cell k6; have q7 := hx.cell k7; have r0 := hx.cell d0; have r6 := hx.cell d6; have r7 := hx.cell d7; clear hx; go_simp; try rfl)
                      simp only [Act.put, List.setIfInBounds_toArray, List.set_cons_zero, List.set_cons_succ]
                      refine hl_take_np 44 (by kernel_rfl) (by kernel_rfl) rfl (by kernel_rfl) hs0 (v := ?_) ?_ ?_
                      rotate_left
                      · (rintro x hx; have q0 := hx.cell k0; have q6 := hx.cell k6; have q7 := hx.cell k7; have r0 := hx.cell d0; have r6 := hx.cell d6; have r7 := hx.cell d7; clear hx; go_simp; try rfl)
                      simp only [Act.put, List.setIfInBounds_toArray, List.set_cons_zero, List.set_cons_succ]
                      refine hl_take_np 45 (by kernel_rfl) (by kernel_rfl) rfl (by kernel_rfl) hs0 (v := ?_) ?_ ?_
                      rotate_left
                      · (rintro x hx; have q0 := hx.cell k0; have q6 := hx.cell k6; have q7 := hx.cell k7; have r0 := hx.cell d0; have r6 := hx.cell d6; have r7 := hx.cell d7; clear hx; go_simp; try rfl)
                      simp only [Act.put, List.setIfInBounds_toArray, List.set_cons_zero, List.set_cons_succ]
                      refine hl_take_np 46 (by kernel_rfl) (by kernel_rfl) rfl (by kernel_rfl) hs0 (v := ?_) ?_ ?_
                      rotate_left
                      · (rintro x hx; have q0 := hx.cell k0; have q6 := hx.cell k6; have q7 := hx.cell k7; have r0 := hx.cell d0; have r6 := hx.cell d6; have r7 := hx.cell d7; clear hx; go_simp; try rfl)
                      simp only [Act.put, List.setIfInBounds_toArray, List.set_cons_zero, List.set_cons_succ]
                      refine hl_take_np 47 (by kernel_rfl) (by kernel_rfl) rfl (by kernel_rfl) hs0 (v := ?_) ?_ ?_
                      rotate_left
                      · (rintro x hx; have q0 := hx.cell k0; have q6 := hx.cell k6; have q7 := hx.cell k7; have r0 := hx.cell d0; have r6 := hx.cell d6; have r7 := hx.cell d7; clear hx; go_simp; try rfl)
                      simp only [Act.put, List.setIfInBounds_toArray, List.set_cons_zero, List.set_cons_succ]
                      refine hl_take_np 48 (by kernel_rfl) (by kernel_rfl) rfl (by kernel_rfl) hs0 (v := ?_) ?_ ?_
                      rotate_left
                      · (rintro x hx; have q0 := hx.cell k0; have q6 := hx.cell k6; have q7 := hx.cell k7; have r0 := hx.cell d0; have r6 := hx.cell d6; have r7 := hx.cell d7; clear hx; go_simp; try rfl)
                      simp only [Act.put, List.setIfInBounds_toArray, List.set_cons_zero, List.set_cons_succ]
                      refine hl_take_np 49 (by kernel_rfl) (by kernel_rfl) rfl (by kernel_rfl) hs0 (v := ?_) ?_ ?_
                      rotate_left
                      · (rintro x hx; have q0 := hx.cell k0; have q6 := hx.cell k6; have q7 := hx.cell k7; have r0 := hx.cell d0; have r6 := hx.cell d6; have r7 := hx.cell d7; clear hx; go_simp; try rfl)
                      simp only [Act.put, List.setIfInBounds_toArray, List.set_cons_zero, List.set_cons_succ]
                      refine hl_take_np 50 (by kernel_rfl) (by kernel_rfl) rfl (by kernel_rfl) hs0 (v := ?_) ?_ ?_
                      rotate_left
                      · (rintro x hx; have q0 := hx.cell k0; have q6 := hx.cell k6; have q7 := hx.cell k7; have r0 := hx.cell d0; have r6 := hx.cell d6; have r7 := hx.cell d7; clear hx; go_simp; try rfl)
                      simp only [Act.put, List.setIfInBounds_toArray, List.set_cons_zero, List.set_cons_succ]
                      refine hl_take_np 51 (by kernel_rfl) (by kernel_rfl) rfl (by kernel_rfl) hs0 (v := ?_) ?_ ?_
                      rotate_left
                      · (rintro x hx; have q0 := hx.cell k0; have q6 := hx.cell k6; have q7 := hx.cell k7; have r0 := hx.cell d0; have r6 := hx.cell d6; have r7 := hx.cell d7; clear hx; go_simp; try rfl)
                      simp only [Act.put, List.setIfInBounds_toArray, List.set_cons_zero, List.set_cons_succ]
                      refine hl_take_np 52 (by kernel_rfl) (by kernel_rfl) rfl (by kernel_rfl) hs0 (v := ?_) ?_ ?_
                      rotate_left
                      · (rintro x hx; have q0 := hx.cell k0; have q6 := hx.cell k6; have q7 := hx.cell k7; have r0 := hx.cell d0; have r6 := hx.cell d6; have r7 := hx.cell d7; clear hx; go_simp; try rfl)
                      simp only [Act.put, List.setIfInBounds_toArray, List.set_cons_zero, List.set_cons_succ]
                      refine hl_take_np 53 (by kernel_rfl) (by kernel_rfl) rfl (by kernel_rfl) hs0 (v := ?_) ?_ ?_
                      rotate_left
                      · (rintro x hx; have q0 := hx.cell k0; have q6 := hx.cell k6; have q7 := hx.cell k7; have r0 := hx.cell d0; have r6 := hx.cell d6; have r7 := hx.cell d7; clear hx; go_simp; try rfl)
                      simp only [Act.put, List.setIfInBounds_toArray, List.set_cons_zero, List.set_cons_succ]
                      refine hl_take_np 54 (by kernel_rfl) (by kernel_rfl) rfl (by kernel_rfl) hs0 (v := ?_) ?_ ?_
                      rotate_left
                      · (rintro x hx; have q0 := hx.cell k0; have q6 := hx.cell k6; have q7 := hx.cell k7; have r0 := hx.cell d0; have r6 := hx.cell d6; have r7 := hx.cell d7; clear hx; go_simp; try rfl)
                      simp only [Act.put, List.setIfInBounds_toArray, List.set_cons_zero, List.set_cons_succ]
                      refine hl_take_np 55 (by kernel_rfl) (by kernel_rfl) rfl (by kernel_rfl) hs0 (v := ?_) ?_ ?_
                      rotate_left
                      · (rintro x hx; have q0 := hx.cell k0; have q6 := hx.cell k6; have q7 := hx.cell k7; have r0 := hx.cell d0; have r6 := hx.cell d6; have r7 := hx.cell d7; clear hx; go_simp; try rfl)
                      simp only [Act.put, List.setIfInBounds_toArray, List.set_cons_zero, List.set_cons_succ]
                      refine hl_take_np 56 (by kernel_rfl) (by kernel_rfl) rfl (by kernel_rfl) hs0 (v := ?_) ?_ ?_
                      rotate_left
                      · (rintro x hx; have q0 := hx.cell k0; have q6 := hx.cell k6; have q7 := hx.cell k7; have r0 := hx.cell d0; have r6 := hx.cell d6; have r7 := hx.cell d7; clear hx; go_simp; try rfl)
                      simp only [Act.put, List.setIfInBounds_toArray, List.set_cons_zero, List.set_cons_succ]
                      refine hl_take_np 57 (by kernel_rfl) (by kernel_rfl) rfl (by kernel_rfl) hs0 (v := ?_) ?_ ?_
                      rotate_left
                      · (rintro x hx; have q0 := hx.cell k0; have q6 := hx.cell k6; have q7 := hx.cell k7; have r0 := hx.cell d0; have r6 := hx.cell d6; have r7 := hx.cell d7; clear hx; go_simp; try rfl)
                      simp only [Act.put, List.setIfInBounds_toArray, List.set_cons_zero, List.set_cons_succ]
                      refine hl_take_np 58 (by kernel_rfl) (by kernel_rfl) rfl (by kernel_rfl) hs0 (v := ?_) ?_ ?_
                      rotate_left
                      · (rintro x hx; have q0 := hx.cell k0; have q6 := hx.cell k6; have q7 := hx.cell k7; have r0 := hx.cell d0; have r6 := hx.cell d6; have r7 := hx.cell d7; clear hx; go_simp; try rfl)
                      simp only [Act.put, List.setIfInBounds_toArray, List.set_cons_zero, List.set_cons_succ]
                      refine hl_take_np 59 (by kernel_rfl) (by kernel_rfl) rfl (by kernel_rfl) hs0 (v := ?_) ?_ ?_
                      rotate_left
                      · (rintro x hx; have q0 := hx.cell k0; have q6 := hx.cell k6; have q7 := hx.cell k7; have r0 := hx.cell d0; have r6 := hx.cell d6; have r7 := hx.cell d7; clear hx; go_simp; try rfl)
                      simp only [Act.put, List.setIfInBounds_toArray, List.set_cons_zero, List.set_cons_succ]
                      refine hl_done (by kernel_rfl) ?_ _
                      refine NoPanic.normal ?_
                      replace k0 := hs0.cell k0
                      replace k1 := hs0.cell k1
                      replace k2 := hs0.cell k2
                      replace k3 := hs0.cell k3
                      replace k4 := hs0.cell k4
                      replace k5 := hs0.cell k5
                      replace k6 := hs0.cell k6
                      replace k7 := hs0.cell k7
                      have HGZ := Lib.hid (HGY.out.trans hs0)
                      have HXZ := Lib.hid (HXE.out.g hs0)
                      clear d0 d6 d7
                      generalize wy.drew = wz at k0 k1 k2 k3 k4 k5 k6 k7 HGZ HXZ ⊢
                      clear hs0 HGY HXE
                      obtain ⟨t, q, sl, hy1, hsl1, hsl2, hsl3, hsl4, hta, ht0, htb⟩ := HFA.out.close (j + 1) _ HEV.out rfl
                      obtain rfl : xq = q := congrArg (fun z : PEv => z.2.2.1) hy1
                      obtain rfl : xa = t := congrArg (fun z : PEv => z.2.2.2) hy1
                      have hyo : outE ⟨xf, xt, xl, xm, .slice pv nv cv, xps⟩ = outE zE.1 := congrArg (fun z : PEv => z.2.1) hy1
                      have HSE : Hid (∀ X, G wz X → Calls Try.prog 22 #[.agg #[.string xf, .string xt, .string xl, .int .i64 xm, .slice pv nv cv], .agg #[.string ⟨#[]⟩, .string ⟨#[]⟩, .string ⟨#[]⟩, .int .i64 0, .slice none 0 0]] X fun e' w' => e' = .returned (.bool true) ∧ G X w') := Lib.hid (fun X hX => by
                        have h1 := sameE_any _ zE.1 X (HXZ.out.g hX) ⟨Rdr.nil _ _ _ _, Nat.zero_le _, fun p hp => (by cases hp), Nat.zero_le _, Nat.zero_le _, Nat.zero_le _⟩
                        rw [sameE_yes hyo] at h1
                        exact h1)
                      have HSL := Lib.hid (slide_any l _ xq wz (H3.out.g (HGW5.out.trans HGZ.out)) (by have := HM.out; omega))
                      rw [hsl1] at HSL
                      have hsl0 : ¬ sl = 0 := by omega
                      have hta' : ¬ xa ≤ a := by omega
                      have htb' : ¬ b < xa := by omega
                      have ht0' : ¬ xa = 0 := by omega
                      have hslb : (sl == 0) = false := by simpa using hsl0
                      have hxab : (xa == 0) = false := by simpa using ht0'
                      have hrem : IntKind.i64.wrap (xa.tmod sl) = 0 := by
                        rw [Int.tmod_eq_emod_of_nonneg (by omega), hsl4]; exact IntWalk.i64_in _ (by omega)
                      have HK2 : Hid (kk = nE (evs.take (j + 1 + 1))) := Lib.hid (by rw [HKN.out, ← HKK.out]; rfl)
                      clear hy1 hyo hsl1
                      go_wp2_with fail
                      refine HSL.out.mono ?_
                      rintro e0 w6 ⟨rfl, rfl⟩
                      go_wp2_with fail
                      refine (HSE.out _ (G.refl _)).mono ?_
                      rintro e0 w7 ⟨rfl, hg7⟩
                      have HG7 := Lib.hid (HGZ.out.trans hg7)
                      clear hg7 k0 k1 k2 k3 k4 k5 k6 k7 HSE HSL hrem hsl4
                      go_wp2_with fail
                      go_roundw
                      case rel => exact ⟨j + 1 + 1, kk, mm + 1, rfl, by go_num, by go_num, by omega, HK2, by omega, HG7⟩
                      case measure => simp [intOf]; omega
          · obtain rfl : i = Nx := by omega
            have hke : kk = nE evs := by rw [HKK.out, List.take_of_length_le (by have := HNX.out.2.2; omega)]
            have hmm : mm = N := by
              have h1 := nE_closes evs
              have h2 := HNN.out
              have h3 := HNX.out.2.2
              omega
            subst hmm
            obtain ⟨bq, hbq⟩ := HX5.out.2.2.2.2
            have hkle : kk ≤ Nh := by
              have h1 := HFA.out.ne
              have h2 := tw_len b s
              have h3 := HNH.out.2.1
              omega
            obtain ⟨Rr, hRr⟩ : ∃ Rr : Nat, Rr = (s.drop (nE evs)).length := ⟨_, rfl⟩
            have hR : (Rr : Int) = (Nh : Int) - (kk : Int) := by
              rw [hRr, List.length_drop, ← hke]
              have h3 := HNH.out.2.1
              omega
            have HLN := Lib.hid (blen_any S P B _ bq wr (hbq.g HG.out) (by rw [List.length_drop]; have := HSO.out.2.1; omega))
            rw [← hRr] at HLN
            have HGE := Lib.hid (HGW5.out.trans HG.out)
            have hii : ¬ (i : Int) < (i : Int) := by omega
            by_cases hkN : kk = Nh
            · subst hkN
              clear hbq hRr hke
              go_wp2_with fail
              refine HLN.out.mono ?_
              rintro e0 w6 ⟨rfl, hg6⟩
              have hgE := HGE.out.trans hg6
              go_wp2_with fail
              go_ret
              exact ⟨rfl, hgE⟩
            · have hkN2 : kk < Nh := by omega
              have hrh : Rdr wr 5 (.slice ph Nh ch) Nh (ecs Lh) := rdr_of_owns (HG.out.ownsRow HX5.out.2.2.1)
              obtain ⟨bh, oh, rfl, -, -, -, e3, -⟩ := cellsAt5 (L := Lh) hrh HNH.out.1.symm hkN2
              have hmh : Lh[kk]? = some (eat Lh kk) := eat_get (by have := HNH.out.1; omega)
              have hgt : b < (eat Lh kk).tm := by
                have h1 := HNH.out.2.2
                have h2 : s[(tw b s).length]? = some (outE (eat Lh kk)) := by
                  rw [← HFA.out.ne, ← hke, ← h1, List.getElem?_map, hmh]; rfl
                exact tw_stop h2
              generalize (eat Lh kk).tm = et at e3 hgt
              have hkI : (kk : Int) < (Nh : Int) := by omega
              have hk0 : (0 : Int) ≤ (kk : Int) := by omega
              have hkne : ¬ (kk : Int) = (Nh : Int) := by omega
              have HE3 : Hid (∀ X, G wr X → X.cell? ⟨bh, oh + kk * 5 + 3, none⟩ = some (.int .i64 et)) := Lib.hid (fun X hX => hX.cell e3)
              clear hbq hRr hrh hmh e3 hke
              go_wp2_with fail
              refine HLN.out.mono ?_
              rintro e0 w6 ⟨rfl, hg6⟩
              have e3 := HE3.out w6 hg6
              have hgE := HGE.out.trans hg6
              go_wp2_with fail
              go_ret
              exact ⟨rfl, hgE⟩
      · have hep : evP a b l s = [] := by unfold evP; rw [HCV.out, if_neg he]
        have hn0 : nn = 0 := cntV_no HCV.out he
        subst hn0
        have hed : decide (e = 0) = false := by simpa using he
        go_wp2_with fail
        refine HTD.out.mono ?_
        rintro e0 w5 ⟨u5, X, rfl, hown5, hX, hE5, hap5, hb5, hf5⟩
        rw [hep] at hX hb5
        have hX0 : X = [] := by
          rw [List.take_nil] at hX
          exact List.map_eq_nil_iff.1 hX
        subst hX0
        obtain ⟨px, cx, rfl⟩ := ownsRow_shape hown5
        rw [List.take_nil] at hb5
        obtain ⟨bq, hbq⟩ : BufNow S P B s w5 := hb5
        have HLN := Lib.hid (blen_any S P B s bq w5 hbq (by have := HSO.out.2.1; omega))
        have hls : s.length = Nh := HNH.out.2.1.symm
        rw [hls] at HLN
        have hgE5 := HG5.out w5 hf5
        clear hown5 hX hf5 hbq hls HTD HG5 HF5
        simp only [List.length_nil]
        go_wp2_with fail
        refine HLN.out.mono ?_
        rintro e0 w6 ⟨rfl, hg6⟩
        have hgE := hgE5.trans hg6
        go_wp2_with fail
        go_ret
        exact ⟨rfl, hgE⟩
  · have hsmI : (120 : Int) < (sz : Int) + (m : Int) := by omega
    go_wp2_with fail
    go_ret
    exact ⟨rfl, hg1⟩
end Go.Proofs.Ythhmmjpgefinmaa
