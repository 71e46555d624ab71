/- rows of edges in order: the document's, with props of their own -/
import Derived.Test.YtahdodijpmkddaaSortRf
set_option maxRecDepth 10000
namespace Go.Proofs.Ytahdodijpmkddaa
set_option linter.unusedVariables false
set_option linter.unusedSimpArgs false
open Go.RowKit Go.Shelf
attribute [local go_sem] Oper.semAt_some

/-- what the document's sort shows -/
def ROwned (w : World) (n : Nat) (l : List Edg) (e : Ending) (w' : World) : Prop := ∃ u R, e = .returned u ∧ w'.ownsRow w.heap.size 33 5 u n (ecs R) ∧ Srt 0 n R ∧ (∀ k, (R.map outE).filter (isO k) = (l.map outE).filter (isO k)) ∧ (∀ E ∈ R, OwnE w' w.heap.size E) ∧ G w w'
set_option maxRecDepth 10000 in
set_option maxHeartbeats 8000000 in
theorem rsortO_any (l : List Edg) (v : Value) (w : World) (h : RdrE w v l) (hn : l.length ≤ 1000000) (hp : ∀ E ∈ l, E.ps.length ≤ 1000000) :
    Calls Try.prog 47 #[v] w (ROwned w l.length l) := by
  obtain ⟨i0, hi, hz0, hz1, hz2⟩ := info_parts infoE
  obtain ⟨j0, hj, hy0, hy1, hy2⟩ := info_parts infoP
  obtain ⟨p, c, rfl⟩ := h.shape
  obtain ⟨n, hnn⟩ : ∃ n, n = l.length := ⟨_, rfl⟩
  rw [← hnn] at hn ⊢
  have HN := Lib.hid hnn
  have H := Lib.hid (show RdrE w (.slice p n c) l by rw [hnn]; exact h)
  have HPP := Lib.hid hp
  clear h hnn hp
  go_enter Try.func47, Try.ntmps47
  go_wp2_with fail
  go_loopw [3, 4] (fun ov iv wr => ∃ (i : Nat) (R : List Edg) (rp : Option Addr) (rc : Nat), i ≤ n ∧ iv = .int .i64 i ∧ ov = .slice rp i rc ∧ Hid (wr.ownsRow w.heap.size 33 5 (.slice rp i rc) i (ecs R) ∧ Srt 0 i R ∧ (∀ k, (R.map outE).filter (isO k) = ((l.take i).map outE).filter (isO k)) ∧ (∀ E ∈ R, OwnE wr w.heap.size E)) ∧ G w wr) (fun _ iv _ => n - (intOf iv).toNat)
  case atStart => exact ⟨0, [], none, 0, by omega, rfl, rfl, Lib.hid ⟨World.ownsRow_nil _ _ _ _, fun i j h1 h2 h3 => by omega, fun k => by simp, fun E hE => by cases hE⟩, G.refl w⟩
  case round =>
    obtain ⟨i, R, rp, rc, hin, rfl, rfl, HR, hg⟩ := hrel
    by_cases hlt : i < n
    · have hltI : (i : Int) < (n : Int) := by omega
      obtain ⟨WA, rfl⟩ : ∃ WA : World, WA = wr := ⟨_, rfl⟩
      have hRl : R.length = i := by have := HR.out.1.1; rw [ecs_len] at this; omega
      have HRL := Lib.hid hRl
      obtain ⟨E, hE⟩ : ∃ x, l[i]? = some x := ⟨l[i]'(by have := HN.out; omega), List.getElem?_eq_getElem _⟩
      have HE := Lib.hid hE
      clear hRl hE
      go_wp2_with fail
      go_loopw [5] (fun kv wr => ∃ k : Nat, k ≤ i ∧ kv = .int .i64 k ∧ Hid (∀ q, k ≤ q → q < i → eLt E (eat R q)) ∧ G WA wr) (fun kv _ => (intOf kv).toNat)
      case atStart => exact ⟨i, by omega, rfl, Lib.hid (fun q h1 h2 => by omega), G.refl _⟩
      case round =>
        obtain ⟨k, hki, rfl, HLO, hga⟩ := hrel
        have hgw := hg.trans hga
        obtain ⟨b, o, hpe, a0, a1, a2, a3, a4⟩ := (H.out.g hgw).at HE.out
        have hea := (H.out.g hgw).each E (List.mem_of_getElem? HE.out)
        subst hpe
        obtain ⟨pa, qa, hva⟩ : ∃ p c, E.v = .slice p E.ps.length c := by obtain ⟨-, p, c, e, -⟩ := hea.rdr; exact ⟨p, c, e⟩
        obtain ⟨na, hna⟩ : ∃ k, k = E.ps.length := ⟨_, rfl⟩
        rw [← hna] at hva
        rw [hva] at a4
        have HNA := Lib.hid hna
        have HVA := Lib.hid hva
        have HEA := Lib.hid hea
        have HPS := Lib.hid (HPP.out E (List.mem_of_getElem? HE.out))
        clear hea hna hva
        by_cases hk0 : 0 < k
        · have hk0I : (0 : Int) < (k : Int) := by omega
          obtain ⟨u, hu⟩ : ∃ u, u = k - 1 := ⟨_, rfl⟩
          have huI : (k : Int) - 1 = (u : Int) := by omega
          have huw : IntKind.i64.wrap (u : Int) = u := IntWalk.i64_in _ (by omega)
          have hui : u < i := by omega
          have HU := Lib.hid hu
          clear hu
          have rr : RdrE wr (.slice rp i rc) R := ⟨by rw [HRL.out]; exact (rdr_of_owns HR.out.1).g hga, fun E hE => ((HR.out.2.2.2 E hE).g hga).at⟩
          have hRu := eat_get (L := R) (k := u) (by rw [HRL.out]; exact hui)
          obtain ⟨b2, o2, hpe2, u0, u1, u2, u3, u4⟩ := rr.at hRu
          subst hpe2
          have heb := rr.each _ (List.mem_of_getElem? hRu)
          have HC := Lib.hid (fun X => ahead_any E (eat R u) X HEA.out.isE heb.isE)
          obtain ⟨pb, nb, qb, hvb⟩ := heb.isE
          unfold ev at HC
          rw [HVA.out, hvb] at HC
          rw [hvb] at u4
          obtain ⟨r, hr⟩ : ∃ r, r = aheadB E (eat R u) := ⟨_, rfl⟩
          rw [← hr] at HC
          have HRR := Lib.hid hr
          obtain ⟨yE, hy⟩ : ∃ y, y = eat R u := ⟨_, rfl⟩
          rw [← hy] at u0 u1 u2 u3 HC
          clear hr hy rr hRu heb hvb
          go_upto_region 6 with fail
          obtain ⟨WD, hWD⟩ : ∃ WD : World, WD = wr.drew := ⟨_, rfl⟩
          have hsD : G wr WD := by rw [hWD]; exact (G.refl wr).drew
          refine region_hlW (fun w' => G wr w') 99 14 (by kernel_rfl) rfl ?_
          intro Q0 HQ0
          simp only [List.replicate_succ, List.replicate_zero]
          rw [← hWD]
          clear hWD
          refine hl_take_np 0 (by kernel_rfl) (by kernel_rfl) rfl (by kernel_rfl) hsD (v := ?_) ?_ ?_
          rotate_left
          · (rintro x hx; have k0 := hx.cell a0; have l0 := hx.cell u0; have k1 := hx.cell a1; have l1 := hx.cell u1; have k2 := hx.cell a2; have l2 := hx.cell u2; have k3 := hx.cell a3; have l3 := hx.cell u3; have k4 := hx.cell a4; have l4 := hx.cell u4; clear hx; go_simp; try rfl)
          simp only [Act.put, List.setIfInBounds_toArray, List.set_cons_zero, List.set_cons_succ]
          refine hl_take_np 1 (by kernel_rfl) (by kernel_rfl) rfl (by kernel_rfl) hsD (v := ?_) ?_ ?_
          rotate_left
          · (rintro x hx; have k0 := hx.cell a0; have l0 := hx.cell u0; have k1 := hx.cell a1; have l1 := hx.cell u1; have k2 := hx.cell a2; have l2 := hx.cell u2; have k3 := hx.cell a3; have l3 := hx.cell u3; have k4 := hx.cell a4; have l4 := hx.cell u4; clear hx; go_simp; try rfl)
          simp only [Act.put, List.setIfInBounds_toArray, List.set_cons_zero, List.set_cons_succ]
          refine hl_take_np 2 (by kernel_rfl) (by kernel_rfl) rfl (by kernel_rfl) hsD (v := ?_) ?_ ?_
          rotate_left
          · (rintro x hx; have k0 := hx.cell a0; have l0 := hx.cell u0; have k1 := hx.cell a1; have l1 := hx.cell u1; have k2 := hx.cell a2; have l2 := hx.cell u2; have k3 := hx.cell a3; have l3 := hx.cell u3; have k4 := hx.cell a4; have l4 := hx.cell u4; clear hx; go_simp; try rfl)
          simp only [Act.put, List.setIfInBounds_toArray, List.set_cons_zero, List.set_cons_succ]
          refine hl_take_np 3 (by kernel_rfl) (by kernel_rfl) rfl (by kernel_rfl) hsD (v := ?_) ?_ ?_
          rotate_left
          · (rintro x hx; have k0 := hx.cell a0; have l0 := hx.cell u0; have k1 := hx.cell a1; have l1 := hx.cell u1; have k2 := hx.cell a2; have l2 := hx.cell u2; have k3 := hx.cell a3; have l3 := hx.cell u3; have k4 := hx.cell a4; have l4 := hx.cell u4; clear hx; go_simp; try rfl)
          simp only [Act.put, List.setIfInBounds_toArray, List.set_cons_zero, List.set_cons_succ]
          refine hl_take_np 4 (by kernel_rfl) (by kernel_rfl) rfl (by kernel_rfl) hsD (v := ?_) ?_ ?_
          rotate_left
          · (rintro x hx; have k0 := hx.cell a0; have l0 := hx.cell u0; have k1 := hx.cell a1; have l1 := hx.cell u1; have k2 := hx.cell a2; have l2 := hx.cell u2; have k3 := hx.cell a3; have l3 := hx.cell u3; have k4 := hx.cell a4; have l4 := hx.cell u4; clear hx; go_simp; try rfl)
          simp only [Act.put, List.setIfInBounds_toArray, List.set_cons_zero, List.set_cons_succ]
          refine hl_take_np 5 (by kernel_rfl) (by kernel_rfl) rfl (by kernel_rfl) hsD (v := ?_) ?_ ?_
          rotate_left
          · (rintro x hx; have k0 := hx.cell a0; have l0 := hx.cell u0; have k1 := hx.cell a1; have l1 := hx.cell u1; have k2 := hx.cell a2; have l2 := hx.cell u2; have k3 := hx.cell a3; have l3 := hx.cell u3; have k4 := hx.cell a4; have l4 := hx.cell u4; clear hx; go_simp; try rfl)
          simp only [Act.put, List.setIfInBounds_toArray, List.set_cons_zero, List.set_cons_succ]
          refine hl_take_np 6 (by kernel_rfl) (by kernel_rfl) rfl (by kernel_rfl) hsD (v := ?_) ?_ ?_
          rotate_left
          · (rintro x hx; have k0 := hx.cell a0; have l0 := hx.cell u0; have k1 := hx.cell a1; have l1 := hx.cell u1; have k2 := hx.cell a2; have l2 := hx.cell u2; have k3 := hx.cell a3; have l3 := hx.cell u3; have k4 := hx.cell a4; have l4 := hx.cell u4; clear hx; go_simp; try rfl)
          simp only [Act.put, List.setIfInBounds_toArray, List.set_cons_zero, List.set_cons_succ]
          refine hl_take_np 7 (by kernel_rfl) (by kernel_rfl) rfl (by kernel_rfl) hsD (v := ?_) ?_ ?_
          rotate_left
          · (rintro x hx; have k0 := hx.cell a0; have l0 := hx.cell u0; have k1 := hx.cell a1; have l1 := hx.cell u1; have k2 := hx.cell a2; have l2 := hx.cell u2; have k3 := hx.cell a3; have l3 := hx.cell u3; have k4 := hx.cell a4; have l4 := hx.cell u4; clear hx; go_simp; try rfl)
          simp only [Act.put, List.setIfInBounds_toArray, List.set_cons_zero, List.set_cons_succ]
          refine hl_take_np 8 (by kernel_rfl) (by kernel_rfl) rfl (by kernel_rfl) hsD (v := ?_) ?_ ?_
          rotate_left
          · (rintro x hx; have k0 := hx.cell a0; have l0 := hx.cell u0; have k1 := hx.cell a1; have l1 := hx.cell u1; have k2 := hx.cell a2; have l2 := hx.cell u2; have k3 := hx.cell a3; have l3 := hx.cell u3; have k4 := hx.cell a4; have l4 := hx.cell u4; clear hx; go_simp; try rfl)
          simp only [Act.put, List.setIfInBounds_toArray, List.set_cons_zero, List.set_cons_succ]
          refine hl_take_np 9 (by kernel_rfl) (by kernel_rfl) rfl (by kernel_rfl) hsD (v := ?_) ?_ ?_
          rotate_left
          · (rintro x hx; have k0 := hx.cell a0; have l0 := hx.cell u0; have k1 := hx.cell a1; have l1 := hx.cell u1; have k2 := hx.cell a2; have l2 := hx.cell u2; have k3 := hx.cell a3; have l3 := hx.cell u3; have k4 := hx.cell a4; have l4 := hx.cell u4; clear hx; go_simp; try rfl)
          simp only [Act.put, List.setIfInBounds_toArray, List.set_cons_zero, List.set_cons_succ]
          refine hl_take_np 10 (by kernel_rfl) (by kernel_rfl) rfl (by kernel_rfl) hsD (v := ?_) ?_ ?_
          rotate_left
          · (rintro x hx; have k0 := hx.cell a0; have l0 := hx.cell u0; have k1 := hx.cell a1; have l1 := hx.cell u1; have k2 := hx.cell a2; have l2 := hx.cell u2; have k3 := hx.cell a3; have l3 := hx.cell u3; have k4 := hx.cell a4; have l4 := hx.cell u4; clear hx; go_simp; try rfl)
          simp only [Act.put, List.setIfInBounds_toArray, List.set_cons_zero, List.set_cons_succ]
          refine hl_take_np 11 (by kernel_rfl) (by kernel_rfl) rfl (by kernel_rfl) hsD (v := ?_) ?_ ?_
          rotate_left
          · (rintro x hx; have k0 := hx.cell a0; have l0 := hx.cell u0; have k1 := hx.cell a1; have l1 := hx.cell u1; have k2 := hx.cell a2; have l2 := hx.cell u2; have k3 := hx.cell a3; have l3 := hx.cell u3; have k4 := hx.cell a4; have l4 := hx.cell u4; clear hx; go_simp; try rfl)
          simp only [Act.put, List.setIfInBounds_toArray, List.set_cons_zero, List.set_cons_succ]
          refine hl_stepW 12 (by kernel_rfl) rfl (by kernel_rfl) ?_
          intro K hK
          go_simp
          refine (HC.out WD).mono ?_
          rintro e W2 ⟨rfl, hgx⟩
          have hs2 : G wr W2 := hsD.trans hgx
          refine hK _ _ (fun _ => hs2) ?_
          clear hK K hgx u0 u1 u2 u3 u4 HC
          simp only [Act.put, List.setIfInBounds_toArray, List.set_cons_zero, List.set_cons_succ]
          refine hl_take_np 13 (by kernel_rfl) (by kernel_rfl) rfl (by kernel_rfl) hs2 (v := ?_) ?_ ?_
          rotate_left
          · (rintro x hx; clear hx; go_simp; try rfl)
          simp only [Act.put, List.setIfInBounds_toArray, List.set_cons_zero, List.set_cons_succ]
          refine hl_done (by kernel_rfl) ?_ _
          refine NoPanic.normal (HQ0.out _ _ ?_)
          clear HQ0
          have HGA := Lib.hid (hga.trans hs2)
          have a0 := hs2.cell a0
          have a1 := hs2.cell a1
          have a2 := hs2.cell a2
          have a3 := hs2.cell a3
          have a4 := hs2.cell a4
          have HEA := Lib.hid (HEA.out.g hs2)
          clear hsD hs2 hga hgw
          cases r
          · have HST := Lib.hid (show k = 0 ∨ ¬ eLt E (eat R (k - 1)) from .inr (by
              rw [← HU.out]; intro h9
              have h8 : aheadB E (eat R u) = true := by
                unfold aheadB; unfold eLt at h9
                have := good_key.rng (ekey E) (ekey (eat R u))
                rw [← ecmp_key] at this
                simp; omega
              rw [← HRR.out] at h8; cases h8))
            have hgW := hg.trans HGA.out
            obtain ⟨X1, hX1⟩ : ∃ X : World, X = W2.alloc (.cells #[.string E.f, .string E.t, .string E.l, .int .i64 E.tm, .slice pa na qa] 33) := ⟨_, rfl⟩
            have gX1 : G W2 X1 := by rw [hX1]; exact (G.refl W2).alloc _
            have hb1 : X1.heap[W2.heap.size]? = some (.cells #[.string E.f, .string E.t, .string E.l, .int .i64 E.tm, .slice pa na qa] 33 (0, 0)) := by rw [hX1]; exact alloc_new _ _
            have hps : Rdr X1 4 (.slice pa na qa) na (pcells E.ps) := by
              have := (HEA.out.g gX1).rdr
              rw [HVA.out] at this
              rw [HNA.out] at this ⊢
              exact this
            have HX1 := Lib.hid hX1
            have HRP := Lib.hid hps
            have HPO := Lib.hid (pcells_one E.ps)
            have HB1 := Lib.hid hb1
            have GX1 := Lib.hid gX1
            have hzX := heap_lt hb1
            clear hX1 hps gX1 hb1 hk0I
            go_upto_region 9 with fail
            rw [← HX1.out]
            clear a0 a1 a2 a3 a4
            obtain ⟨e0, e1, e2, e3, e4⟩ := cells5 HB1.out
            have hna9 : na ≤ 1000000 := by rw [HNA.out]; exact HPS.out
            go_upto_region 10 with (at_builtin; go_loud (refine wpList_appendR _ rfl _ _ 31 rfl X1.heap.size 86 j0 (.agg #[.string ⟨#[]⟩, .int .i64 0, .int .i64 0, .string ⟨#[]⟩]) 4 48 Try.underlying31 hj hy0 hy1 hy2 rfl (by decide) _ 0 [] rfl (World.ownsRow_made X1 #[] 0 (Nat.le_refl _) (Nat.zero_le _) rfl) (.slice pa na qa) na (pcells E.ps) rfl (Rdr.g HRP.out ((G.refl X1).alloc _)) HPO.out (by unfold maxLen; omega) (by omega) (by simp) ?_); intro p2 c2 X2 hown2 hgrow2 hat2; have gX2 : G X1 X2 := ((G.refl X1).alloc _).grown hgrow2 (fun k h => by have := Option.some.inj h; simp at this; omega); have e0 := gX2.cell e0; have e1 := gX2.cell e1; have e2 := gX2.cell e2; have e3 := gX2.cell e3; have e4 := gX2.cell e4; have y4 : X2.frozen? ⟨W2.heap.size, 4, none⟩ = false := (by have hb := HB1.out; rw [gX2.frozen (p := ⟨W2.heap.size, 4, none⟩) hzX]; unfold World.frozen?; rw [hb]; simp); have HO2 := Lib.hid hown2; have GX2 := Lib.hid gX2; clear hgrow2 hat2 hown2 gX2)
            simp only [Nat.zero_add, List.nil_append] at HO2 ⊢
            obtain ⟨X3, hX3⟩ : ∃ X : World, X = X2.setCell ⟨W2.heap.size, 4, none⟩ (.slice p2 na c2) := ⟨_, rfl⟩
            rw [← hX3]
            have hb2 := (GX2.out.block (heap_lt HB1.out)).trans HB1.out
            have hb3 : X3.heap[W2.heap.size]? = some (.cells #[.string E.f, .string E.t, .string E.l, .int .i64 E.tm, .slice p2 na c2] 33 (0, 0)) := by rw [hX3]; exact heap_setCell_at _ _ 4 _ _ _ _ hb2
            have gX3 : G W2 X3 := by rw [hX3]; exact (GX1.out.trans GX2.out).setCell (Nat.le_refl _) _
            have hown3 : X3.ownsRow X1.heap.size 86 4 (.slice p2 na c2) na (pcells E.ps) := by rw [hX3]; exact ownsRow_setCell_below HO2.out hzX _
            have HEN := Lib.hid (show OwnE X3 w.heap.size (lentE E (.slice p2 na c2)) from ⟨by show X3.ownsRow w.heap.size 86 4 (.slice p2 na c2) E.ps.length (pcells E.ps); rw [← HNA.out]; exact ownsRow_mono hown3 (by have a1 := hg.size; have a2 := HGA.out.size; have a3 := GX1.out.size; omega), HEA.out.n, HEA.out.ps, HEA.out.f, HEA.out.t, HEA.out.l⟩)
            have hRd : Rdr X3 5 (.slice (some ⟨b2, o2, none⟩) i rc) i (ecs R) := (rdr_of_owns HR.out.1).g (HGA.out.trans gX3)
            have hic : i ≤ rc := ownsRow_cap HR.out.1
            have hdr := rdrE_drop hRd hic hki
            try simp only [Option.map_some, addr_add] at hdr
            have HDR0 := Lib.hid hdr
            have HTK := Lib.hid (rdrE_take hRd hki)
            have hkI1 : (k : Int) ≤ (i : Int) := by omega
            have hkI2 : (i : Int) ≤ (rc : Int) := by omega
            have hkI3 : (0 : Int) ≤ (k : Int) := by omega
            have GW3 := Lib.hid (hgW.trans gX3)
            have GX3 := Lib.hid gX3
            obtain ⟨q0, q1, q2, q3, q4⟩ := cells5 hb3
            clear hX3 hb2 hb3 gX3 hown3 hRd hdr e0 e1 e2 e3 e4 y4 HB1 HRP HX1 GX1 GX2 HO2
            obtain ⟨XD, hXD⟩ : ∃ X : World, X = X3.drew := ⟨_, rfl⟩
            have gD : G X3 XD := by rw [hXD]; exact (G.refl X3).drew
            refine region_hlW (fun w' => G X3 w') 99 7 (by kernel_rfl) rfl ?_
            intro Q1 HQ1
            simp only [List.replicate_succ, List.replicate_zero]
            rw [← hXD]
            clear hXD
            refine hl_take_np 0 (by kernel_rfl) (by kernel_rfl) rfl (by kernel_rfl) gD (v := ?_) ?_ ?_
            rotate_left
            · (rintro x hx; have k0 := hx.cell q0; have k1 := hx.cell q1; have k2 := hx.cell q2; have k3 := hx.cell q3; have k4 := hx.cell q4; clear hx; go_simp; try rfl)
            simp only [Act.put, List.setIfInBounds_toArray, List.set_cons_zero, List.set_cons_succ]
            refine hl_take_np 2 (by kernel_rfl) (by kernel_rfl) rfl (by kernel_rfl) gD (v := ?_) ?_ ?_
            rotate_left
            · (rintro x hx; have k0 := hx.cell q0; have k1 := hx.cell q1; have k2 := hx.cell q2; have k3 := hx.cell q3; have k4 := hx.cell q4; clear hx; go_simp; try rfl)
            simp only [Act.put, List.setIfInBounds_toArray, List.set_cons_zero, List.set_cons_succ]
            refine hl_take_np 3 (by kernel_rfl) (by kernel_rfl) rfl (by kernel_rfl) gD (v := ?_) ?_ ?_
            rotate_left
            · (rintro x hx; have k0 := hx.cell q0; have k1 := hx.cell q1; have k2 := hx.cell q2; have k3 := hx.cell q3; have k4 := hx.cell q4; clear hx; go_simp; try rfl)
            simp only [Act.put, List.setIfInBounds_toArray, List.set_cons_zero, List.set_cons_succ]
            refine hl_take_np 4 (by kernel_rfl) (by kernel_rfl) rfl (by kernel_rfl) gD (v := ?_) ?_ ?_
            rotate_left
            · (rintro x hx; have k0 := hx.cell q0; have k1 := hx.cell q1; have k2 := hx.cell q2; have k3 := hx.cell q3; have k4 := hx.cell q4; clear hx; go_simp; try rfl)
            simp only [Act.put, List.setIfInBounds_toArray, List.set_cons_zero, List.set_cons_succ]
            have HDR := HDR0
            clear HDR0
            first
            | generalize (if rc = k then (some ⟨b2, o2, none⟩ : Option Addr) else some ⟨b2, o2 + k * 5, none⟩) = pt at HDR ⊢
            | generalize (if rc = k then rp else Option.map (fun x => x.add (k * 5)) rp) = pt at HDR ⊢
            obtain ⟨F, hF⟩ : ∃ F, F = lentE E (.slice p2 na c2) := ⟨_, rfl⟩
            have HF := Lib.hid hF
            rw [← hF] at HEN
            obtain ⟨X4, hX4⟩ : ∃ X : World, X = XD.alloc (.cells #[.string E.f, .string E.t, .string E.l, .int .i64 E.tm, .slice p2 na c2] 33) := ⟨_, rfl⟩
            have g4 : G X3 X4 := by rw [hX4]; exact gD.alloc _
            have o4 : X4.ownsRow XD.heap.size 33 5 (.slice (some ⟨XD.heap.size, 0, none⟩) 1 1) 1 (ecs [F]) := by rw [hX4, hF]; exact own_lit5 XD _
            have HO4 := Lib.hid o4
            have HX4 := Lib.hid hX4
            have hzD := g4.size
            have hzE : XD.heap.size ≤ X4.heap.size := by rw [hX4]; simp
            refine hl_stepW 1 (by kernel_rfl) rfl (by kernel_rfl) ?_
            intro K hK
            go_simp
            rw [← HX4.out]
            refine hK _ _ (fun _ => g4) ?_
            clear hK K hX4 hF o4
            simp only [Act.put, List.setIfInBounds_toArray, List.set_cons_zero, List.set_cons_succ]
            refine hl_step 5 (by kernel_rfl) rfl ?_
            refine wpList_appendR X4 rfl _ _ 28 rfl XD.heap.size 33 i0 (.agg #[.string ⟨#[]⟩, .string ⟨#[]⟩, .string ⟨#[]⟩, .int .i64 0, .slice none 0 0]) 5 80 Try.underlying28 hi hz0 hz1 hz2 rfl (by decide) (.slice (some ⟨XD.heap.size, 0, none⟩) 1 1) 1 (ecs [F]) rfl HO4.out (.slice pt (i - k) (rc - k)) (i - k) (ecs (R.drop k)) rfl (HDR.out.g g4) (ecs_one _ (fun F hF => (HR.out.2.2.2 F (List.mem_of_mem_drop hF)).isE)) (by unfold maxLen; omega) (by omega) hzE ?_
            intro p5 c5 X5 hown5 hgrow5 hat5
            have g5 : G X3 X5 := g4.grown hgrow5 (fun k h => by have h1 := (HO4.out.lt k h).1; have h2 := gD.size; omega)
            have HO5 := Lib.hid hown5
            clear hgrow5 hat5 hown5 g4
            simp only [Act.put, List.setIfInBounds_toArray, List.set_cons_zero, List.set_cons_succ]
            show _ ∧ _
            refine ⟨(by first | exact g5 | exact fun _ => g5), ?_⟩
            refine hl_take_np 6 (by kernel_rfl) (by kernel_rfl) rfl (by kernel_rfl) g5 (v := ?_) ?_ ?_
            rotate_left
            · (rintro x hx; clear hx; go_simp; try rfl)
            simp only [Act.put, List.setIfInBounds_toArray, List.set_cons_zero, List.set_cons_succ]
            refine hl_done (by kernel_rfl) ?_ _
            refine NoPanic.normal (HQ1.out _ _ ?_)
            clear HQ1 q0 q1 q2 q3 q4
            have HTK5 := Lib.hid (HTK.out.g g5)
            have HG5 := Lib.hid g5
            have hz5 := g5.size
            clear gD g5 HTK HDR
            go_wp2_with (first
              | (at_builtin; refine wpList_appendR _ rfl _ _ 28 rfl X5.heap.size 33 i0 (.agg #[.string ⟨#[]⟩, .string ⟨#[]⟩, .string ⟨#[]⟩, .int .i64 0, .slice none 0 0]) 5 80 Try.underlying28 hi hz0 hz1 hz2 rfl (by decide) _ 0 [] rfl (World.ownsRow_made X5 #[] 0 (Nat.le_refl _) (Nat.zero_le _) rfl) (.slice (some ⟨b2, o2, none⟩) k rc) k (ecs (R.take k)) rfl (Rdr.g HTK5.out ((G.refl X5).alloc _)) (ecs_one _ (fun F hF => (HR.out.2.2.2 F (List.mem_of_mem_take hF)).isE)) (by unfold maxLen; omega) (by omega) (by simp) ?_; intro p6 c6 X6 hown6 hgrow6 hat6; have g6 : G X5 X6 := ((G.refl X5).alloc _).grown hgrow6 (fun k h => by have := Option.some.inj h; simp at this; omega); simp only [Nat.zero_add, List.nil_append] at hown6 ⊢; have HO6 := Lib.hid hown6; have hz6 := g6.size; have HG6 := Lib.hid g6; clear hgrow6 hat6 hown6 g6)
              | (at_builtin; refine wpList_appendR X6 rfl _ _ 28 rfl X5.heap.size 33 i0 (.agg #[.string ⟨#[]⟩, .string ⟨#[]⟩, .string ⟨#[]⟩, .int .i64 0, .slice none 0 0]) 5 80 Try.underlying28 hi hz0 hz1 hz2 rfl (by decide) (.slice p6 k c6) k (ecs (R.take k)) rfl HO6.out (.slice p5 (1 + (i - k)) c5) (1 + (i - k)) (ecs [F] ++ ecs (R.drop k)) rfl (rdr_of_owns (HG6.out.ownsRow HO5.out)) (by rw [← ecs_app]; exact ecs_one _ (fun F' hF' => by rcases List.mem_append.1 hF' with h | h; (obtain rfl := List.mem_singleton.1 h; exact HEN.out.isE); exact (HR.out.2.2.2 F' (List.mem_of_mem_drop h)).isE)) (by unfold maxLen; omega) (by omega) hz6 ?_; intro p7 c7 X7 hown7 hgrow7 hat7; have hl7 : k + (1 + (i - k)) = i + 1 := (by omega); rw [hl7] at hown7 ⊢; have g7 : G X5 X7 := HG6.out.grown hgrow7 (fun k h => (HO6.out.lt k h).1); have HO7 := Lib.hid hown7; have HG7 := Lib.hid g7; clear hgrow7 hat7 hown7 g7 hl7))
            have HRES := Lib.hid (show X7.ownsRow w.heap.size 33 5 (.slice p7 (i + 1) c7) (i + 1) (ecs (R.take k ++ F :: R.drop k)) ∧ Srt 0 (i + 1) (R.take k ++ F :: R.drop k) ∧ (∀ x, ((R.take k ++ F :: R.drop k).map outE).filter (isO x) = ((l.take (i + 1)).map outE).filter (isO x)) ∧ (∀ E ∈ R.take k ++ F :: R.drop k, OwnE X7 w.heap.size E) from by
              have hlo : ∀ q, k ≤ q → q < R.length → eLt F (eat R q) := fun q h1 h2 => by rw [HF.out]; exact HLO.out q h1 (by rw [← HRL.out]; exact h2)
              have hst : k = 0 ∨ ¬ eLt F (eat R (k - 1)) := by rw [HF.out]; exact HST.out
              refine ⟨?_, ?_, fun x => ?_, fun F' hF' => ?_⟩
              · have := ownsRow_mono HO7.out (show w.heap.size ≤ X5.heap.size by have := (GW3.out.trans HG5.out).size; exact this)
                rw [ecs_app, show ecs (F :: R.drop k) = ecs [F] ++ ecs (R.drop k) from by rw [← ecs_app]; rfl]
                exact this
              · have := ins_srt (E := F) (R := R) (k := k) (by rw [HRL.out]; exact hki) (by rw [HRL.out]; exact HR.out.2.1) hlo hst
                rwa [HRL.out] at this
              · rw [filter_out, ins_filt hlo, List.map_append, ← filter_out, ← filter_out, HR.out.2.2.1 x, List.take_add_one, HE.out, List.map_append, List.filter_append]
                congr 1
                rw [HF.out]; rfl
              · have g37 := HG5.out.trans HG7.out
                have gA7 := (HGA.out.trans GX3.out).trans g37
                rcases List.mem_append.1 hF' with h | h
                · exact (HR.out.2.2.2 F' (List.mem_of_mem_take h)).g gA7
                · rcases List.mem_cons.1 h with h | h
                  · rw [h]; exact HEN.out.g g37
                  · exact (HR.out.2.2.2 F' (List.mem_of_mem_drop h)).g gA7)
            have hgF := GW3.out.trans (HG5.out.trans HG7.out)
            go_roundw
            case rel => exact ⟨i + 1, _, p7, c7, by omega, by go_num, rfl, HRES, hgF⟩
            case measure => simp [intOf]; omega
          · have HLO2 := Lib.hid (show ∀ q, u ≤ q → q < i → eLt E (eat R q) from fun q h1 h2 => by
              by_cases h3 : q = u
              · rw [h3]
                have h8 := HRR.out.symm
                unfold aheadB at h8
                unfold eLt
                have := of_decide_eq_true h8
                omega
              · exact HLO.out q (by have := HU.out; omega) h2)
            clear a0 a1 a2 a3 a4
            go_wp2_with fail
            go_roundw
            case rel => exact ⟨u, by omega, rfl, HLO2, HGA.out⟩
            case measure => simp [intOf]; omega
        · have hk0I : ¬ (0 : Int) < (k : Int) := by omega
          have hk0d : decide (0 < k) = false := by simpa using hk0
          go_upto_region 6 with fail
          obtain ⟨WD, hWD⟩ : ∃ WD : World, WD = wr.drew := ⟨_, rfl⟩
          have hsD : G wr WD := by rw [hWD]; exact (G.refl wr).drew
          refine region_hlW (fun w' => G wr w') 99 14 (by kernel_rfl) rfl ?_
          intro Q0 HQ0
          simp only [List.replicate_succ, List.replicate_zero]
          rw [← hWD]
          clear hWD
          refine hl_take_np 0 (by kernel_rfl) (by kernel_rfl) rfl (by kernel_rfl) hsD (v := ?_) ?_ ?_
          rotate_left
          · (rintro x hx; clear hx; go_simp; try rfl)
          simp only [Act.put, List.setIfInBounds_toArray, List.set_cons_zero, List.set_cons_succ]
          refine hl_take_np 1 (by kernel_rfl) (by kernel_rfl) rfl (by kernel_rfl) hsD (v := ?_) ?_ ?_
          rotate_left
          · (rintro x hx; clear hx; go_simp; try rfl)
          simp only [Act.put, List.setIfInBounds_toArray, List.set_cons_zero, List.set_cons_succ]
          refine hl_take_np 2 (by kernel_rfl) (by kernel_rfl) rfl (by kernel_rfl) hsD (v := ?_) ?_ ?_
          rotate_left
          · (rintro x hx; clear hx; go_simp; try rfl)
          simp only [Act.put, List.setIfInBounds_toArray, List.set_cons_zero, List.set_cons_succ]
          refine hl_skip_np 3 (by kernel_rfl) (by kernel_rfl) rfl (by kernel_rfl) hsD ?_
          simp only [Act.put, List.setIfInBounds_toArray, List.set_cons_zero, List.set_cons_succ]
          refine hl_skip_np 4 (by kernel_rfl) (by kernel_rfl) rfl (by kernel_rfl) hsD ?_
          simp only [Act.put, List.setIfInBounds_toArray, List.set_cons_zero, List.set_cons_succ]
          refine hl_skip_np 5 (by kernel_rfl) (by kernel_rfl) rfl (by kernel_rfl) hsD ?_
          simp only [Act.put, List.setIfInBounds_toArray, List.set_cons_zero, List.set_cons_succ]
          refine hl_skip_np 6 (by kernel_rfl) (by kernel_rfl) rfl (by kernel_rfl) hsD ?_
          simp only [Act.put, List.setIfInBounds_toArray, List.set_cons_zero, List.set_cons_succ]
          refine hl_skip_np 7 (by kernel_rfl) (by kernel_rfl) rfl (by kernel_rfl) hsD ?_
          simp only [Act.put, List.setIfInBounds_toArray, List.set_cons_zero, List.set_cons_succ]
          refine hl_skip_np 8 (by kernel_rfl) (by kernel_rfl) rfl (by kernel_rfl) hsD ?_
          simp only [Act.put, List.setIfInBounds_toArray, List.set_cons_zero, List.set_cons_succ]
          refine hl_skip_np 9 (by kernel_rfl) (by kernel_rfl) rfl (by kernel_rfl) hsD ?_
          simp only [Act.put, List.setIfInBounds_toArray, List.set_cons_zero, List.set_cons_succ]
          refine hl_skip_np 10 (by kernel_rfl) (by kernel_rfl) rfl (by kernel_rfl) hsD ?_
          simp only [Act.put, List.setIfInBounds_toArray, List.set_cons_zero, List.set_cons_succ]
          refine hl_skip_np 11 (by kernel_rfl) (by kernel_rfl) rfl (by kernel_rfl) hsD ?_
          simp only [Act.put, List.setIfInBounds_toArray, List.set_cons_zero, List.set_cons_succ]
          refine hl_skip_np 12 (by kernel_rfl) (by kernel_rfl) rfl (by kernel_rfl) hsD ?_
          simp only [Act.put, List.setIfInBounds_toArray, List.set_cons_zero, List.set_cons_succ]
          refine hl_take_np 13 (by kernel_rfl) (by kernel_rfl) rfl (by kernel_rfl) hsD (v := ?_) ?_ ?_
          rotate_left
          · (rintro x hx; clear hx; go_simp; try rfl)
          simp only [Act.put, List.setIfInBounds_toArray, List.set_cons_zero, List.set_cons_succ]
          refine hl_done (by kernel_rfl) ?_ _
          refine NoPanic.normal (HQ0.out _ _ ?_)
          clear HQ0
          have HGA := Lib.hid (hga.trans hsD)
          have a0 := hsD.cell a0
          have a1 := hsD.cell a1
          have a2 := hsD.cell a2
          have a3 := hsD.cell a3
          have a4 := hsD.cell a4
          have HEA := Lib.hid (HEA.out.g hsD)
          have HST := Lib.hid (show k = 0 ∨ ¬ eLt E (eat R (k - 1)) from .inl (by omega))
          clear hsD hga hgw
          have hgW := hg.trans HGA.out
          obtain ⟨X1, hX1⟩ : ∃ X : World, X = WD.alloc (.cells #[.string E.f, .string E.t, .string E.l, .int .i64 E.tm, .slice pa na qa] 33) := ⟨_, rfl⟩
          have gX1 : G WD X1 := by rw [hX1]; exact (G.refl WD).alloc _
          have hb1 : X1.heap[WD.heap.size]? = some (.cells #[.string E.f, .string E.t, .string E.l, .int .i64 E.tm, .slice pa na qa] 33 (0, 0)) := by rw [hX1]; exact alloc_new _ _
          have hps : Rdr X1 4 (.slice pa na qa) na (pcells E.ps) := by
            have := (HEA.out.g gX1).rdr
            rw [HVA.out] at this
            rw [HNA.out] at this ⊢
            exact this
          have HX1 := Lib.hid hX1
          have HRP := Lib.hid hps
          have HPO := Lib.hid (pcells_one E.ps)
          have HB1 := Lib.hid hb1
          have GX1 := Lib.hid gX1
          have hzX := heap_lt hb1
          clear hX1 hps gX1 hb1 hk0I
          go_upto_region 9 with fail
          rw [← HX1.out]
          clear a0 a1 a2 a3 a4
          obtain ⟨e0, e1, e2, e3, e4⟩ := cells5 HB1.out
          have hna9 : na ≤ 1000000 := by rw [HNA.out]; exact HPS.out
          go_upto_region 10 with (at_builtin; go_loud (refine wpList_appendR _ rfl _ _ 31 rfl X1.heap.size 86 j0 (.agg #[.string ⟨#[]⟩, .int .i64 0, .int .i64 0, .string ⟨#[]⟩]) 4 48 Try.underlying31 hj hy0 hy1 hy2 rfl (by decide) _ 0 [] rfl (World.ownsRow_made X1 #[] 0 (Nat.le_refl _) (Nat.zero_le _) rfl) (.slice pa na qa) na (pcells E.ps) rfl (Rdr.g HRP.out ((G.refl X1).alloc _)) HPO.out (by unfold maxLen; omega) (by omega) (by simp) ?_); intro p2 c2 X2 hown2 hgrow2 hat2; have gX2 : G X1 X2 := ((G.refl X1).alloc _).grown hgrow2 (fun k h => by have := Option.some.inj h; simp at this; omega); have e0 := gX2.cell e0; have e1 := gX2.cell e1; have e2 := gX2.cell e2; have e3 := gX2.cell e3; have e4 := gX2.cell e4; have y4 : X2.frozen? ⟨WD.heap.size, 4, none⟩ = false := (by have hb := HB1.out; rw [gX2.frozen (p := ⟨WD.heap.size, 4, none⟩) hzX]; unfold World.frozen?; rw [hb]; simp); have HO2 := Lib.hid hown2; have GX2 := Lib.hid gX2; clear hgrow2 hat2 hown2 gX2)
          simp only [Nat.zero_add, List.nil_append] at HO2 ⊢
          obtain ⟨X3, hX3⟩ : ∃ X : World, X = X2.setCell ⟨WD.heap.size, 4, none⟩ (.slice p2 na c2) := ⟨_, rfl⟩
          rw [← hX3]
          have hb2 := (GX2.out.block (heap_lt HB1.out)).trans HB1.out
          have hb3 : X3.heap[WD.heap.size]? = some (.cells #[.string E.f, .string E.t, .string E.l, .int .i64 E.tm, .slice p2 na c2] 33 (0, 0)) := by rw [hX3]; exact heap_setCell_at _ _ 4 _ _ _ _ hb2
          have gX3 : G WD X3 := by rw [hX3]; exact (GX1.out.trans GX2.out).setCell (Nat.le_refl _) _
          have hown3 : X3.ownsRow X1.heap.size 86 4 (.slice p2 na c2) na (pcells E.ps) := by rw [hX3]; exact ownsRow_setCell_below HO2.out hzX _
          have HEN := Lib.hid (show OwnE X3 w.heap.size (lentE E (.slice p2 na c2)) from ⟨by show X3.ownsRow w.heap.size 86 4 (.slice p2 na c2) E.ps.length (pcells E.ps); rw [← HNA.out]; exact ownsRow_mono hown3 (by have a1 := hg.size; have a2 := HGA.out.size; have a3 := GX1.out.size; omega), HEA.out.n, HEA.out.ps, HEA.out.f, HEA.out.t, HEA.out.l⟩)
          have hRd : Rdr X3 5 (.slice (rp) i rc) i (ecs R) := (rdr_of_owns HR.out.1).g (HGA.out.trans gX3)
          have hic : i ≤ rc := ownsRow_cap HR.out.1
          have hdr := rdrE_drop hRd hic hki
          try simp only [Option.map_some, addr_add] at hdr
          have HDR0 := Lib.hid hdr
          have HTK := Lib.hid (rdrE_take hRd hki)
          have hkI1 : (k : Int) ≤ (i : Int) := by omega
          have hkI2 : (i : Int) ≤ (rc : Int) := by omega
          have hkI3 : (0 : Int) ≤ (k : Int) := by omega
          have GW3 := Lib.hid (hgW.trans gX3)
          have GX3 := Lib.hid gX3
          obtain ⟨q0, q1, q2, q3, q4⟩ := cells5 hb3
          clear hX3 hb2 hb3 gX3 hown3 hRd hdr e0 e1 e2 e3 e4 y4 HB1 HRP HX1 GX1 GX2 HO2
          obtain ⟨XD, hXD⟩ : ∃ X : World, X = X3.drew := ⟨_, rfl⟩
          have gD : G X3 XD := by rw [hXD]; exact (G.refl X3).drew
          refine region_hlW (fun w' => G X3 w') 99 7 (by kernel_rfl) rfl ?_
          intro Q1 HQ1
          simp only [List.replicate_succ, List.replicate_zero]
          rw [← hXD]
          clear hXD
          refine hl_take_np 0 (by kernel_rfl) (by kernel_rfl) rfl (by kernel_rfl) gD (v := ?_) ?_ ?_
          rotate_left
          · (rintro x hx; have k0 := hx.cell q0; have k1 := hx.cell q1; have k2 := hx.cell q2; have k3 := hx.cell q3; have k4 := hx.cell q4; clear hx; go_simp; try rfl)
          simp only [Act.put, List.setIfInBounds_toArray, List.set_cons_zero, List.set_cons_succ]
          refine hl_take_np 2 (by kernel_rfl) (by kernel_rfl) rfl (by kernel_rfl) gD (v := ?_) ?_ ?_
          rotate_left
          · (rintro x hx; have k0 := hx.cell q0; have k1 := hx.cell q1; have k2 := hx.cell q2; have k3 := hx.cell q3; have k4 := hx.cell q4; clear hx; go_simp; try rfl)
          simp only [Act.put, List.setIfInBounds_toArray, List.set_cons_zero, List.set_cons_succ]
          refine hl_take_np 3 (by kernel_rfl) (by kernel_rfl) rfl (by kernel_rfl) gD (v := ?_) ?_ ?_
          rotate_left
          · (rintro x hx; have k0 := hx.cell q0; have k1 := hx.cell q1; have k2 := hx.cell q2; have k3 := hx.cell q3; have k4 := hx.cell q4; clear hx; go_simp; try rfl)
          simp only [Act.put, List.setIfInBounds_toArray, List.set_cons_zero, List.set_cons_succ]
          refine hl_take_np 4 (by kernel_rfl) (by kernel_rfl) rfl (by kernel_rfl) gD (v := ?_) ?_ ?_
          rotate_left
          · (rintro x hx; have k0 := hx.cell q0; have k1 := hx.cell q1; have k2 := hx.cell q2; have k3 := hx.cell q3; have k4 := hx.cell q4; clear hx; go_simp; try rfl)
          simp only [Act.put, List.setIfInBounds_toArray, List.set_cons_zero, List.set_cons_succ]
          have HDR := HDR0
          clear HDR0
          first
          | generalize (if rc = k then (some ⟨b2, o2, none⟩ : Option Addr) else some ⟨b2, o2 + k * 5, none⟩) = pt at HDR ⊢
          | generalize (if rc = k then rp else Option.map (fun x => x.add (k * 5)) rp) = pt at HDR ⊢
          obtain ⟨F, hF⟩ : ∃ F, F = lentE E (.slice p2 na c2) := ⟨_, rfl⟩
          have HF := Lib.hid hF
          rw [← hF] at HEN
          obtain ⟨X4, hX4⟩ : ∃ X : World, X = XD.alloc (.cells #[.string E.f, .string E.t, .string E.l, .int .i64 E.tm, .slice p2 na c2] 33) := ⟨_, rfl⟩
          have g4 : G X3 X4 := by rw [hX4]; exact gD.alloc _
          have o4 : X4.ownsRow XD.heap.size 33 5 (.slice (some ⟨XD.heap.size, 0, none⟩) 1 1) 1 (ecs [F]) := by rw [hX4, hF]; exact own_lit5 XD _
          have HO4 := Lib.hid o4
          have HX4 := Lib.hid hX4
          have hzD := g4.size
          have hzE : XD.heap.size ≤ X4.heap.size := by rw [hX4]; simp
          refine hl_stepW 1 (by kernel_rfl) rfl (by kernel_rfl) ?_
          intro K hK
          go_simp
          rw [← HX4.out]
          refine hK _ _ (fun _ => g4) ?_
          clear hK K hX4 hF o4
          simp only [Act.put, List.setIfInBounds_toArray, List.set_cons_zero, List.set_cons_succ]
          refine hl_step 5 (by kernel_rfl) rfl ?_
          refine wpList_appendR X4 rfl _ _ 28 rfl XD.heap.size 33 i0 (.agg #[.string ⟨#[]⟩, .string ⟨#[]⟩, .string ⟨#[]⟩, .int .i64 0, .slice none 0 0]) 5 80 Try.underlying28 hi hz0 hz1 hz2 rfl (by decide) (.slice (some ⟨XD.heap.size, 0, none⟩) 1 1) 1 (ecs [F]) rfl HO4.out (.slice pt (i - k) (rc - k)) (i - k) (ecs (R.drop k)) rfl (HDR.out.g g4) (ecs_one _ (fun F hF => (HR.out.2.2.2 F (List.mem_of_mem_drop hF)).isE)) (by unfold maxLen; omega) (by omega) hzE ?_
          intro p5 c5 X5 hown5 hgrow5 hat5
          have g5 : G X3 X5 := g4.grown hgrow5 (fun k h => by have h1 := (HO4.out.lt k h).1; have h2 := gD.size; omega)
          have HO5 := Lib.hid hown5
          clear hgrow5 hat5 hown5 g4
          simp only [Act.put, List.setIfInBounds_toArray, List.set_cons_zero, List.set_cons_succ]
          show _ ∧ _
          refine ⟨(by first | exact g5 | exact fun _ => g5), ?_⟩
          refine hl_take_np 6 (by kernel_rfl) (by kernel_rfl) rfl (by kernel_rfl) g5 (v := ?_) ?_ ?_
          rotate_left
          · (rintro x hx; clear hx; go_simp; try rfl)
          simp only [Act.put, List.setIfInBounds_toArray, List.set_cons_zero, List.set_cons_succ]
          refine hl_done (by kernel_rfl) ?_ _
          refine NoPanic.normal (HQ1.out _ _ ?_)
          clear HQ1 q0 q1 q2 q3 q4
          have HTK5 := Lib.hid (HTK.out.g g5)
          have HG5 := Lib.hid g5
          have hz5 := g5.size
          clear gD g5 HTK HDR
          go_wp2_with (first
            | (at_builtin; refine wpList_appendR _ rfl _ _ 28 rfl X5.heap.size 33 i0 (.agg #[.string ⟨#[]⟩, .string ⟨#[]⟩, .string ⟨#[]⟩, .int .i64 0, .slice none 0 0]) 5 80 Try.underlying28 hi hz0 hz1 hz2 rfl (by decide) _ 0 [] rfl (World.ownsRow_made X5 #[] 0 (Nat.le_refl _) (Nat.zero_le _) rfl) (.slice (rp) k rc) k (ecs (R.take k)) rfl (Rdr.g HTK5.out ((G.refl X5).alloc _)) (ecs_one _ (fun F hF => (HR.out.2.2.2 F (List.mem_of_mem_take hF)).isE)) (by unfold maxLen; omega) (by omega) (by simp) ?_; intro p6 c6 X6 hown6 hgrow6 hat6; have g6 : G X5 X6 := ((G.refl X5).alloc _).grown hgrow6 (fun k h => by have := Option.some.inj h; simp at this; omega); simp only [Nat.zero_add, List.nil_append] at hown6 ⊢; have HO6 := Lib.hid hown6; have hz6 := g6.size; have HG6 := Lib.hid g6; clear hgrow6 hat6 hown6 g6)
            | (at_builtin; refine wpList_appendR X6 rfl _ _ 28 rfl X5.heap.size 33 i0 (.agg #[.string ⟨#[]⟩, .string ⟨#[]⟩, .string ⟨#[]⟩, .int .i64 0, .slice none 0 0]) 5 80 Try.underlying28 hi hz0 hz1 hz2 rfl (by decide) (.slice p6 k c6) k (ecs (R.take k)) rfl HO6.out (.slice p5 (1 + (i - k)) c5) (1 + (i - k)) (ecs [F] ++ ecs (R.drop k)) rfl (rdr_of_owns (HG6.out.ownsRow HO5.out)) (by rw [← ecs_app]; exact ecs_one _ (fun F' hF' => by rcases List.mem_append.1 hF' with h | h; (obtain rfl := List.mem_singleton.1 h; exact HEN.out.isE); exact (HR.out.2.2.2 F' (List.mem_of_mem_drop h)).isE)) (by unfold maxLen; omega) (by omega) hz6 ?_; intro p7 c7 X7 hown7 hgrow7 hat7; have hl7 : k + (1 + (i - k)) = i + 1 := (by omega); rw [hl7] at hown7 ⊢; have g7 : G X5 X7 := HG6.out.grown hgrow7 (fun k h => (HO6.out.lt k h).1); have HO7 := Lib.hid hown7; have HG7 := Lib.hid g7; clear hgrow7 hat7 hown7 g7 hl7))
          have HRES := Lib.hid (show X7.ownsRow w.heap.size 33 5 (.slice p7 (i + 1) c7) (i + 1) (ecs (R.take k ++ F :: R.drop k)) ∧ Srt 0 (i + 1) (R.take k ++ F :: R.drop k) ∧ (∀ x, ((R.take k ++ F :: R.drop k).map outE).filter (isO x) = ((l.take (i + 1)).map outE).filter (isO x)) ∧ (∀ E ∈ R.take k ++ F :: R.drop k, OwnE X7 w.heap.size E) from by
            have hlo : ∀ q, k ≤ q → q < R.length → eLt F (eat R q) := fun q h1 h2 => by rw [HF.out]; exact HLO.out q h1 (by rw [← HRL.out]; exact h2)
            have hst : k = 0 ∨ ¬ eLt F (eat R (k - 1)) := by rw [HF.out]; exact HST.out
            refine ⟨?_, ?_, fun x => ?_, fun F' hF' => ?_⟩
            · have := ownsRow_mono HO7.out (show w.heap.size ≤ X5.heap.size by have := (GW3.out.trans HG5.out).size; exact this)
              rw [ecs_app, show ecs (F :: R.drop k) = ecs [F] ++ ecs (R.drop k) from by rw [← ecs_app]; rfl]
              exact this
            · have := ins_srt (E := F) (R := R) (k := k) (by rw [HRL.out]; exact hki) (by rw [HRL.out]; exact HR.out.2.1) hlo hst
              rwa [HRL.out] at this
            · rw [filter_out, ins_filt hlo, List.map_append, ← filter_out, ← filter_out, HR.out.2.2.1 x, List.take_add_one, HE.out, List.map_append, List.filter_append]
              congr 1
              rw [HF.out]; rfl
            · have g37 := HG5.out.trans HG7.out
              have gA7 := (HGA.out.trans GX3.out).trans g37
              rcases List.mem_append.1 hF' with h | h
              · exact (HR.out.2.2.2 F' (List.mem_of_mem_take h)).g gA7
              · rcases List.mem_cons.1 h with h | h
                · rw [h]; exact HEN.out.g g37
                · exact (HR.out.2.2.2 F' (List.mem_of_mem_drop h)).g gA7)
          have hgF := GW3.out.trans (HG5.out.trans HG7.out)
          go_roundw
          case rel => exact ⟨i + 1, _, p7, c7, by omega, by go_num, rfl, HRES, hgF⟩
          case measure => simp [intOf]; omega
    · have hltI : ¬ (i : Int) < (n : Int) := by omega
      have hi9 : i = n := by omega
      have HF := Lib.hid (show wr.ownsRow w.heap.size 33 5 (.slice rp i rc) n (ecs R) ∧ Srt 0 n R ∧ (∀ k, (R.map outE).filter (isO k) = (l.map outE).filter (isO k)) ∧ (∀ E ∈ R, OwnE wr w.heap.size E) from by
        obtain ⟨h1, h2, h3, h4⟩ := HR.out
        rw [List.take_of_length_le (by have := HN.out; omega)] at h3
        rw [← hi9]
        exact ⟨h1, h2, h3, h4⟩)
      clear hi9
      go_wp2_with fail
      go_ret
      first
      | exact ⟨_, R, rfl, HF.out.1, HF.out.2.1, HF.out.2.2.1, HF.out.2.2.2, hg⟩
      | exact ⟨R, HF.out.1, HF.out.2.1, HF.out.2.2.1, HF.out.2.2.2, hg⟩
      | (trace_state; done)
end Go.Proofs.Ytahdodijpmkddaa
