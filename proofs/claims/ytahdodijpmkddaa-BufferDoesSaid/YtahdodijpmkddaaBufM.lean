/- the document's buffer: Has, All -/
import Derived.Test.YtahdodijpmkddaaBufR
set_option maxRecDepth 10000
namespace Go.Proofs.Ytahdodijpmkddaa
set_option linter.unusedVariables false
set_option linter.unusedSimpArgs false
open Go.RowKit Go.Shelf
attribute [local go_sem] Oper.semAt_some

theorem rboxc {W : World} {R : Nat} {v : Value} {t : TypeId} (h : W.heap[R]? = some (.cells #[v] t (0, 0))) : W.cell? ⟨R, 0, none⟩ = some v := by simp [World.cell?, h]
set_option maxHeartbeats 4000000 in
theorem rhas_any (T : Nat → Prop) (R : Nat) (s : List Out) (v : Value) (L : List Edg) (E : Edg) (w : World) (h : RBuf T w R s v L) (hE : IsE E) (hn : s.length ≤ 100000) :
    Calls Try.prog 36 #[.pointer (some ⟨R, 0, none⟩), ev E] w fun e w' => e = .returned (.bool (hasO (okey (outE E)) s)) ∧ G w w' := by
  have HHS := Lib.hid (h.has (okey (outE E)))
  obtain ⟨p, c, rfl⟩ := h.rdr.shape
  have br := rboxc h.box
  obtain ⟨n, hnn⟩ : ∃ n, n = L.length := ⟨_, rfl⟩
  have hnl : n ≤ 100000 := by rw [hnn, h.len]; exact hn
  have HRW := Lib.hid h.row
  have HIS := Lib.hid (fun E hE => (h.each E hE).1.isE)
  rw [← hnn] at br HRW
  have HN := Lib.hid hnn
  obtain ⟨ef, et, el, em, evv, eps⟩ := E
  obtain ⟨pe, ne, ce, hev⟩ := id hE
  simp only at hev
  subst hev
  obtain ⟨E, hEE⟩ : ∃ E : Edg, E = ⟨ef, et, el, em, .slice pe ne ce, eps⟩ := ⟨_, rfl⟩
  rw [← hEE] at hE HHS ⊢
  have hEv : ev E = .agg #[.string ef, .string et, .string el, .int .i64 em, .slice pe ne ce] := by rw [hEE]; rfl
  have HLK := Lib.hid (fun k (hk : k < n) X => rlike_any (eat L k) E X (HIS.out _ (List.mem_of_getElem? (eat_get (by omega)))) hE)
  rw [hEv] at HLK ⊢
  have hgB : G w (w.alloc (.cells #[.string ef, .string et, .string el, .int .i64 em, .slice pe ne ce] 33)) := (G.refl w).alloc _
  have d0 := cell_alloc_at w [.string ef, .string et, .string el, .int .i64 em, .slice pe ne ce] 33 (0, 0) 0 _ rfl
  have d1 := cell_alloc_at w [.string ef, .string et, .string el, .int .i64 em, .slice pe ne ce] 33 (0, 0) 1 _ rfl
  have d2 := cell_alloc_at w [.string ef, .string et, .string el, .int .i64 em, .slice pe ne ce] 33 (0, 0) 2 _ rfl
  have d3 := cell_alloc_at w [.string ef, .string et, .string el, .int .i64 em, .slice pe ne ce] 33 (0, 0) 3 _ rfl
  have d4 := cell_alloc_at w [.string ef, .string et, .string el, .int .i64 em, .slice pe ne ce] 33 (0, 0) 4 _ rfl
  simp only [Nat.zero_add] at d0 d1 d2 d3 d4
  obtain ⟨hs, hhs⟩ : ∃ b, b = hasO (okey (outE E)) s := ⟨_, rfl⟩
  rw [← hhs] at HHS ⊢
  clear h hE hEv hEE hnn hn hhs
  go_enter Try.func36, Try.ntmps36
  go_upto_region 1 with fail
  have br := hgB.cell br
  generalize (w.alloc (.cells #[.string ef, .string et, .string el, .int .i64 em, .slice pe ne ce] 33)) = WB at hgB d0 d1 d2 d3 d4 br ⊢
  go_wp2_with fail
  go_loopw [5] (fun kv wr => ∃ k : Nat, kv = .int .i64 k ∧ k ≤ n ∧ Hid (hasO (okey (outE E)) ((L.drop k).map outE) = hs) ∧ G WB wr) (fun kv _ => n - (intOf kv).toNat)
  case atStart => exact ⟨0, rfl, by omega, Lib.hid (by simpa using HHS.out), G.refl _⟩
  case round =>
    obtain ⟨k, rfl, hk, HD, hgr⟩ := hrel
    have br := hgr.cell br
    by_cases hlt : k < n
    · have hkI : (k : Int) < (n : Int) := by omega
      have d0 := hgr.cell d0
      have d1 := hgr.cell d1
      have d2 := hgr.cell d2
      have d3 := hgr.cell d3
      have d4 := hgr.cell d4
      obtain ⟨bb, oo, rfl, j0, j1, j2, j3, j4⟩ := cellsAt5 (HRW.out.g (hgB.trans hgr)) HN.out.symm hlt
      obtain ⟨px, nx, cx, hxv⟩ := HIS.out (eat L k) (List.mem_of_getElem? (eat_get (by have := HN.out; omega)))
      have HL2 := Lib.hid (fun X => HLK.out k hlt X)
      have hEvx : ev (eat L k) = .agg #[.string (eat L k).f, .string (eat L k).t, .string (eat L k).l, .int .i64 (eat L k).tm, .slice px nx cx] := by unfold ev; rw [hxv]
      rw [hEvx] at HL2
      rw [hxv] at j4
      have HNX := Lib.hid (like_has L E k (by have := HN.out; omega))
      rw [HD.out] at HNX
      generalize likeB (eat L k) E = lb at HL2 HNX
      generalize (eat L k).f = xf at j0 HL2
      generalize (eat L k).t = xt at j1 HL2
      generalize (eat L k).l = xl at j2 HL2
      generalize (eat L k).tm = xm at j3 HL2
      clear hxv hEvx HD
      go_upto_region 4 with fail
      obtain ⟨WD, hWD⟩ : ∃ WD : World, WD = wr.drew := ⟨_, rfl⟩
      have hsD : G wr WD := by rw [hWD]; exact (G.refl wr).drew
      refine region_hlW (fun w' => G wr w') 99 9 (by kernel_rfl) rfl ?_
      intro Q0 HQ0
      simp only [List.replicate_succ, List.replicate_zero]
      rw [← hWD]
      clear hWD
      refine hl_take_np 0 (by kernel_rfl) (by kernel_rfl) rfl (by kernel_rfl) hsD (v := ?_) ?_ ?_
      rotate_left
      · (rintro x hx; have k_br := hx.cell br; have k_d0 := hx.cell d0; have k_d1 := hx.cell d1; have k_d2 := hx.cell d2; have k_d3 := hx.cell d3; have k_d4 := hx.cell d4; have k_j0 := hx.cell j0; have k_j1 := hx.cell j1; have k_j2 := hx.cell j2; have k_j3 := hx.cell j3; have k_j4 := hx.cell j4; clear hx; go_simp; try rfl)
      simp only [Act.put, List.setIfInBounds_toArray, List.set_cons_zero, List.set_cons_succ]
      refine hl_take_np 1 (by kernel_rfl) (by kernel_rfl) rfl (by kernel_rfl) hsD (v := ?_) ?_ ?_
      rotate_left
      · (rintro x hx; have k_br := hx.cell br; have k_d0 := hx.cell d0; have k_d1 := hx.cell d1; have k_d2 := hx.cell d2; have k_d3 := hx.cell d3; have k_d4 := hx.cell d4; have k_j0 := hx.cell j0; have k_j1 := hx.cell j1; have k_j2 := hx.cell j2; have k_j3 := hx.cell j3; have k_j4 := hx.cell j4; clear hx; go_simp; try rfl)
      simp only [Act.put, List.setIfInBounds_toArray, List.set_cons_zero, List.set_cons_succ]
      refine hl_take_np 2 (by kernel_rfl) (by kernel_rfl) rfl (by kernel_rfl) hsD (v := ?_) ?_ ?_
      rotate_left
      · (rintro x hx; have k_br := hx.cell br; have k_d0 := hx.cell d0; have k_d1 := hx.cell d1; have k_d2 := hx.cell d2; have k_d3 := hx.cell d3; have k_d4 := hx.cell d4; have k_j0 := hx.cell j0; have k_j1 := hx.cell j1; have k_j2 := hx.cell j2; have k_j3 := hx.cell j3; have k_j4 := hx.cell j4; clear hx; go_simp; try rfl)
      simp only [Act.put, List.setIfInBounds_toArray, List.set_cons_zero, List.set_cons_succ]
      refine hl_take_np 3 (by kernel_rfl) (by kernel_rfl) rfl (by kernel_rfl) hsD (v := ?_) ?_ ?_
      rotate_left
      · (rintro x hx; have k_br := hx.cell br; have k_d0 := hx.cell d0; have k_d1 := hx.cell d1; have k_d2 := hx.cell d2; have k_d3 := hx.cell d3; have k_d4 := hx.cell d4; have k_j0 := hx.cell j0; have k_j1 := hx.cell j1; have k_j2 := hx.cell j2; have k_j3 := hx.cell j3; have k_j4 := hx.cell j4; clear hx; go_simp; try rfl)
      simp only [Act.put, List.setIfInBounds_toArray, List.set_cons_zero, List.set_cons_succ]
      refine hl_take_np 4 (by kernel_rfl) (by kernel_rfl) rfl (by kernel_rfl) hsD (v := ?_) ?_ ?_
      rotate_left
      · (rintro x hx; have k_br := hx.cell br; have k_d0 := hx.cell d0; have k_d1 := hx.cell d1; have k_d2 := hx.cell d2; have k_d3 := hx.cell d3; have k_d4 := hx.cell d4; have k_j0 := hx.cell j0; have k_j1 := hx.cell j1; have k_j2 := hx.cell j2; have k_j3 := hx.cell j3; have k_j4 := hx.cell j4; clear hx; go_simp; try rfl)
      simp only [Act.put, List.setIfInBounds_toArray, List.set_cons_zero, List.set_cons_succ]
      refine hl_take_np 5 (by kernel_rfl) (by kernel_rfl) rfl (by kernel_rfl) hsD (v := ?_) ?_ ?_
      rotate_left
      · (rintro x hx; have k_br := hx.cell br; have k_d0 := hx.cell d0; have k_d1 := hx.cell d1; have k_d2 := hx.cell d2; have k_d3 := hx.cell d3; have k_d4 := hx.cell d4; have k_j0 := hx.cell j0; have k_j1 := hx.cell j1; have k_j2 := hx.cell j2; have k_j3 := hx.cell j3; have k_j4 := hx.cell j4; clear hx; go_simp; try rfl)
      simp only [Act.put, List.setIfInBounds_toArray, List.set_cons_zero, List.set_cons_succ]
      refine hl_take_np 6 (by kernel_rfl) (by kernel_rfl) rfl (by kernel_rfl) hsD (v := ?_) ?_ ?_
      rotate_left
      · (rintro x hx; have k_br := hx.cell br; have k_d0 := hx.cell d0; have k_d1 := hx.cell d1; have k_d2 := hx.cell d2; have k_d3 := hx.cell d3; have k_d4 := hx.cell d4; have k_j0 := hx.cell j0; have k_j1 := hx.cell j1; have k_j2 := hx.cell j2; have k_j3 := hx.cell j3; have k_j4 := hx.cell j4; clear hx; go_simp; try rfl)
      simp only [Act.put, List.setIfInBounds_toArray, List.set_cons_zero, List.set_cons_succ]
      refine hl_take_np 7 (by kernel_rfl) (by kernel_rfl) rfl (by kernel_rfl) hsD (v := ?_) ?_ ?_
      rotate_left
      · (rintro x hx; have k_br := hx.cell br; have k_d0 := hx.cell d0; have k_d1 := hx.cell d1; have k_d2 := hx.cell d2; have k_d3 := hx.cell d3; have k_d4 := hx.cell d4; have k_j0 := hx.cell j0; have k_j1 := hx.cell j1; have k_j2 := hx.cell j2; have k_j3 := hx.cell j3; have k_j4 := hx.cell j4; clear hx; go_simp; try rfl)
      simp only [Act.put, List.setIfInBounds_toArray, List.set_cons_zero, List.set_cons_succ]
      refine hl_stepW 8 (by kernel_rfl) rfl (by kernel_rfl) ?_
      intro K hK
      go_simp
      refine (HL2.out WD).mono ?_
      rintro e W2 ⟨rfl, hga⟩
      have hs2 : G wr W2 := hsD.trans hga
      refine hK _ _ (fun _ => hs2) ?_
      clear hK K hga j0 j1 j2 j3 j4 d0 d1 d2 d3 d4 br HL2
      simp only [Act.put, List.setIfInBounds_toArray, List.set_cons_zero, List.set_cons_succ]
      refine hl_done (by kernel_rfl) ?_ _
      refine NoPanic.normal (HQ0.out _ _ ?_)
      clear HQ0
      have hg2 := hgr.trans hs2
      clear hsD hs2 hgr
      cases lb
      · go_wp2_with fail
        go_roundw
        case rel => exact ⟨k + 1, by go_num, by omega, Lib.hid (by simpa using HNX.out.symm), hg2⟩
        case measure => simp [intOf]; omega
      · have hht : hs = true := by simpa using HNX.out
        have hgE := hgB.trans hg2
        subst hht
        go_wp2_with fail
        go_ret
        exact ⟨rfl, hgE⟩
    · obtain rfl : k = n := by omega
      have hkI : ¬ (k : Int) < (k : Int) := by omega
      have hht : hs = false := by
        rw [← HD.out, List.drop_of_length_le (by have := HN.out; omega)]; rfl
      have hgE := hgB.trans hgr
      subst hht
      go_wp2_with fail
      go_ret
      exact ⟨rfl, hgE⟩
/-- all of the document's -/
def RAllOut (s : List Out) (w : World) (e : Ending) (w' : World) : Prop := ∃ u M, e = .returned u ∧ w'.ownsRow w.heap.size 33 5 u M.length (ecs M) ∧ M.map outE = s ∧ (∀ E ∈ M, OwnE w' w.heap.size E) ∧ G w w'
theorem rall_any (T : Nat → Prop) (R : Nat) (s : List Out) (v : Value) (L : List Edg) (w : World) (h : RBuf T w R s v L) (hn : s.length ≤ 100000) (hps : ∀ o ∈ s, o.2.2.2.2.length ≤ 1000000) :
    Calls Try.prog 24 #[.pointer (some ⟨R, 0, none⟩)] w (RAllOut s w) := by
  have hpL : ∀ E ∈ L, E.ps.length ≤ 1000000 := fun E hE => by
    have h1 : outE E ∈ (L.map outE).filter (isO (okey (outE E))) := List.mem_filter.2 ⟨List.mem_map.2 ⟨E, hE, rfl⟩, isO_self _⟩
    rw [h.same] at h1
    exact hps _ (List.mem_filter.1 h1).1
  have HC := Lib.hid (copies_any L v w h.rdr (by rw [h.len]; exact hn) hpL)
  have br := rboxc h.box
  have HSM := Lib.hid h.same
  have HST := Lib.hid h.str
  have HLE := Lib.hid h.len
  have HPL := Lib.hid hpL
  obtain ⟨p, c, rfl⟩ := h.rdr.shape
  clear h hps hpL
  go_enter Try.func24, Try.ntmps24
  go_wp2_with fail
  refine HC.out.mono ?_
  rintro e W2 ⟨u, M, rfl, hown, hmo, hM, hg2⟩
  have hml : M.length = L.length := by have := congrArg List.length hmo; simpa using this
  have hMP : ∀ E ∈ M, E.ps.length ≤ 1000000 := fun E hE => by
    have h1 : outE E ∈ L.map outE := by rw [← hmo]; exact List.mem_map.2 ⟨E, hE, rfl⟩
    obtain ⟨F, hF, he⟩ := List.mem_map.1 h1
    have h2 := HPL.out F hF
    have h3 : F.ps = E.ps := congrArg (fun o : Out => o.2.2.2.2) he
    rw [← h3]; exact h2
  have HSO := Lib.hid (rsortO_any M u W2 ⟨rdr_of_owns hown, fun E hE => (hM E hE).at⟩ (by rw [hml, HLE.out]; omega) hMP)
  have HMO := Lib.hid hmo
  have HML := Lib.hid hml
  obtain ⟨up, uc, rfl⟩ := ownsRow_shape hown
  have hws := hg2.size
  clear hown hmo hM hml hMP HC
  go_wp2_with fail
  refine HSO.out.mono ?_
  rintro e W3 ⟨x, Q, rfl, hown, hsrt, hfl, hQ, hg3⟩
  have HFIN : Hid (RAllOut s w (.returned x) W3) := Lib.hid (by
    have hql : Q.length = M.length := by have := hown.1; rw [ecs_len] at this; omega
    refine ⟨x, Q, rfl, by rw [hql]; exact ownsRow_mono hown hws, ?_, fun E hE => ?_, hg2.trans hg3⟩
    · refine osrt_uniq _ _ (osrt_of hql hsrt) HST.out.srt (fun k => ?_)
      rw [hfl, HMO.out, HSM.out]
    · have h1 := hQ E hE
      exact ⟨ownsRow_mono h1.own hws, h1.n, h1.ps, h1.f, h1.t, h1.l⟩)
  obtain ⟨xp, xc, rfl⟩ := ownsRow_shape hown
  clear hown hsrt hfl hQ hg3 hg2 HSO
  go_wp2_with fail
  go_ret
  exact HFIN.out
end Go.Proofs.Ytahdodijpmkddaa
