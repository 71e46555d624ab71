/- the walk of HeapDoes -/
import Derived.Test.YthdeehpnlcpbnaaHeapV
namespace Go.Proofs.Ythdeehpnlcpbnaa
set_option linter.unusedVariables false
set_option linter.unusedSimpArgs false
open Go.RowKit Go.Shelf
attribute [local go_sem] Oper.semAt_some

set_option maxRecDepth 100000 in
set_option maxHeartbeats 4000000 in
theorem does_any (xs : List Item) (ds : List Dd) (u v : Value) (w : World) (hu : Rdr w 2 u xs.length (icells xs)) (hv : RdrD w v ds) (hxl : xs.length ≤ 8796093022208) (hdl : ∀ d ∈ ds, d.xs.length ≤ 8796093022208) (hdn : ds.length ≤ 8796093022208)
    (hxk : ∀ x ∈ xs, x.1 ≤ 9223372036854775807) (hdk : ∀ d ∈ ds, ∀ x ∈ d.xs, x.1 ≤ 9223372036854775807) :
    Calls Try.prog 3 #[u, v] w fun e w' => e = .returned (.bool true) ∧ G w w' := by
  have HSZ := Lib.hid (dsize_any ds v w hv hdl hdn)
  obtain ⟨-, up, uc, rfl, -⟩ := id hu
  obtain ⟨-, vp, vc, rfl, -⟩ := id hv.rdr
  obtain ⟨n, hnn⟩ : ∃ n, n = xs.length := ⟨_, rfl⟩
  obtain ⟨m, hmm⟩ : ∃ m, m = ds.length := ⟨_, rfl⟩
  have HU : Hid (Rdr w 2 (.slice up n uc) xs.length (icells xs)) := Lib.hid (by rw [hnn]; exact hu)
  have HV : Hid (RdrD w (.slice vp m vc) ds) := Lib.hid (by rw [hmm]; exact hv)
  rw [← hnn] at hu hxl ⊢
  rw [← hmm] at HSZ hdn ⊢
  have HU2 := Lib.hid hu
  have HN := Lib.hid hnn
  have HM := Lib.hid hmm
  have HXK := Lib.hid hxk
  have HDK := Lib.hid hdk
  have HONE := Lib.hid icells_one
  obtain ⟨i0, hi, hz0, hz1, hz2⟩ := info_parts infoI
  clear hnn hmm hu hv hxk hdk hdl hdn
  go_enter Try.func3, Try.ntmps3
  go_wp2_with fail
  refine HSZ.out.mono ?_
  rintro e w1 ⟨r, rfl, ⟨hr0, hr4, hrs⟩, rfl⟩
  by_cases hbig : r + (n : Int) ≤ 600
  · have HRS := Lib.hid (hrs (by omega))
    have hm6 : m ≤ 600 := by have := HRS.out.1; have := HM.out; omega
    clear HSZ hrs
    go_wp2_with (at_builtin; refine wpList_appendR _ rfl _ _ 22 rfl w.heap.size 40 i0 (.agg #[.int .i64 0, .int .i64 0]) 2 16 Try.underlying22 hi hz0 hz1 hz2 rfl (by decide) _ 0 [] rfl (World.ownsRow_made w #[] 0 (Nat.le_refl _) (Nat.zero_le _) rfl) _ n (icells xs) rfl (HU2.out.g ((G.refl w).alloc _)) (HONE.out _) (by unfold maxLen; omega) (by omega) (by simp) ?_; intro p2 c2 w2 hown2 hgrow2 hat2; simp only [Nat.zero_add, List.nil_append] at hown2 hat2 ⊢; have hg2 : G w w2 := ((G.refl w).alloc _).grown hgrow2 (fun k h => by have := Option.some.inj h; simp at this; omega); have HO2 := Lib.hid hown2; clear hown2 hgrow2 hat2)
    have HRX : Hid (Rdr w2 2 (.slice p2 n c2) xs.length (icells xs)) := Lib.hid (by rw [← HN.out]; exact rdr_of_owns HO2.out)
    have HLX : Hid (xs.length ≤ 1000000) := Lib.hid (by have := HN.out; omega)
    refine (new_any xs _ w2 HRX.out HLX.out).mono ?_
    rintro e w3 ⟨rfl, ⟨v3, S, hat3, hS3⟩, hg3⟩
    go_wp2_with fail
    refine (theirs_any xs _ w3 (HU.out.g (hg2.trans hg3)) HLX.out).mono ?_
    rintro e w4 ⟨u4, rfl, hown4, hg4⟩
    go_wp2_with fail
    refine (rnew_any xs _ w4 (rdr_of_owns hown4) HLX.out).mono ?_
    rintro e w5 ⟨rfl, ⟨v5, T, hat5, hT5⟩, hg5⟩
    have HI5 : Hid (Two w w5 S T w2.heap.size w4.heap.size (pushes [] xs) (inss [] xs)) := Lib.hid ⟨⟨v3, hat3.g (hg4.trans hg5)⟩, ⟨v5, hat5⟩, fun q hq => Nat.le_trans hg2.size (hS3 q hq), fun q hq => Nat.le_trans (hg2.trans (hg3.trans hg4)).size (hT5 q hq),
      fun q hq ht => by have h1 := hat3.lt q hq; have h2 := hT5 q ht; have h3 := hg4.size; omega, hg2.trans (hg3.trans (hg4.trans hg5))⟩
    have HO5 : Hid (w5.ownsRow w.heap.size 40 2 (.slice p2 xs.length c2) xs.length (icells xs)) := Lib.hid (by rw [← HN.out]; exact (hg3.trans (hg4.trans hg5)).ownsRow HO2.out)
    have HD5 : Hid (∀ q, (Value.slice p2 xs.length c2).ownBlock = some q → ¬ S q ∧ ¬ T q) := Lib.hid (fun q e => by
      have h1 : q < w2.heap.size := (HO2.out.lt q (by cases p2 <;> exact e)).2
      have h2 := hg3.size
      have h3 := hg4.size
      exact ⟨fun h => by have := hS3 q h; omega, fun h => by have := hT5 q h; omega⟩)
    have HOV := Lib.hid (over_any w.heap.size xs _ w5 HO5.out HLX.out)
    rw [← HN.out] at HOV
    generalize w2.heap.size = B0 at HI5 ⊢
    generalize w4.heap.size = R at HI5 ⊢
    clear hat3 hS3 hown4 hat5 hT5 hg2 hg3 hg4 hg5
    go_wp2_with fail
    refine HOV.out.mono ?_
    rintro e w6 ⟨⟨u6, rfl⟩, hf6⟩
    have HI6 : Hid (Two w w6 S T B0 R (pushes [] xs) (inss [] xs)) := Lib.hid (over_fr HI5.out HO5.out (Nat.le_refl _) HD5.out (by rw [← HN.out]; exact hf6))
    have HL6 : Hid (Ls (pushes [] xs) (inss [] xs) 0) := Lib.hid ⟨HL.nil.pushes, by rw [pushes_len]; have := HN.out; simp; omega, fun x hx => (inss_mem hx).elim (fun h => by simp at h) (HXK.out x)⟩
    clear HOV HD5 HO5 HI5 hf6 HRX HO2
    go_wp2_with fail
    go_loopw [6, 8] (fun hv i wr => ∃ (k : Nat) (B : Nat) (S T : Nat → Prop) (hs L : List Item), k ≤ m ∧ i = .int .i64 k ∧ hv = .pointer (some ⟨B, 0, none⟩) ∧ Hid (Two w wr S T B R hs L) ∧ Hid (Ls hs L k)) (fun _ i _ => m - (intOf i).toNat)
    case atStart => exact ⟨0, B0, S, T, _, _, by omega, rfl, rfl, HI6, HL6⟩
    case round =>
      clear HI6 HL6 S T
      obtain ⟨k, B, S, T, hs, L, hk, rfl, rfl, HI, HL⟩ := hrel
      by_cases hlt : k < m
      · skip
        obtain ⟨b, o, d, q, ec, hvp, hdk, hdv, c0, c1, c2', c3, hdr⟩ := HV.out.at (k := k) (by have := HM.out; omega)
        subst hvp
        have c0 := HI.out.g.cell c0
        have c1 := HI.out.g.cell c1
        have c2' := HI.out.g.cell c2'
        have c3 := HI.out.g.cell c3
        have hdm := List.mem_of_getElem? hdk
        obtain ⟨dl, hdl⟩ : ∃ dl, dl = d.xs.length := ⟨_, rfl⟩
        have HDR : Hid (Rdr wr 2 (.slice q dl ec) d.xs.length (icells d.xs)) := Lib.hid (by rw [hdl]; exact hdr.g HI.out.g)
        have HDR0 : Hid (Rdr w 2 (.slice q dl ec) d.xs.length (icells d.xs)) := Lib.hid (by rw [hdl]; exact hdr)
        have HDR2 : Hid (Rdr wr 2 (.slice q dl ec) dl (icells d.xs)) := Lib.hid (by rw [hdl]; exact hdr.g HI.out.g)
        have hd6 : dl ≤ 600 := by rw [hdl]; exact HRS.out.2 d hdm
        rw [← hdl] at c3
        have HDL := Lib.hid hdl
        have HDKD := Lib.hid (HDK.out d hdm)
        have hkn : (k : Int) < (m : Int) := by omega
        have hk0 : (0 : Int) ≤ (k : Int) := by omega
        clear hdk hdv hdr hdm hdl
        obtain ⟨what, key, many, dv, ys⟩ := d
        simp only at c0 c1 c2' c3 HDR HDR0 HDR2 HDL HDKD
        have hgx : G wr (wr.alloc (.cells #[.int .i64 what, .int .i64 key, .int .i64 many, .slice q dl ec] 34)) := (G.refl wr).alloc _
        have hbx : (wr.alloc (.cells #[.int .i64 what, .int .i64 key, .int .i64 many, .slice q dl ec] 34)).heap[wr.heap.size]? = some (.cells #[.int .i64 what, .int .i64 key, .int .i64 many, .slice q dl ec] 34 (0, 0)) := alloc_new wr _
        go_wp2_with fail
        refine (pick_any what 4 _ (by omega) (by omega)).mono ?_
        rintro e w7 ⟨⟨r, hr4, rfl⟩, rfl⟩
        obtain ⟨ri, hri⟩ : ∃ ri : Int, ri = (r : Int) := ⟨_, rfl⟩
        rw [← hri] at hr4 ⊢
        have hri0 : 0 ≤ ri := by omega
        have hxz : wr.heap.size < (wr.alloc (.cells #[.int .i64 what, .int .i64 key, .int .i64 many, .slice q dl ec] 34)).heap.size := by simp
        have HIx := Lib.hid (HI.out.go hgx)
        have hSX : ¬ S wr.heap.size := fun h => by have := HI.out.ltS _ h; omega
        have hTX : ¬ T wr.heap.size := fun h => by have := HI.out.ltT _ h; omega
        generalize (wr.alloc (.cells #[.int .i64 what, .int .i64 key, .int .i64 many, .slice q dl ec] 34)) = wx at hgx hbx hxz HIx ⊢
        obtain ⟨X, hX⟩ : ∃ X, X = wr.heap.size := ⟨_, rfl⟩
        rw [← hX] at hbx hxz hSX hTX ⊢
        obtain ⟨b0, b1, b2, b3⟩ := box4 hbx
        have HBX := Lib.hid hbx
        have hlim := HL.out.lim (by omega)
        obtain ⟨vB, hatx⟩ := HIx.out.h
        obtain ⟨vR, hrtx⟩ := HIx.out.r
        have hRx : R < wx.heap.size := hrtx.lt R hrtx.inR
        clear hX hri c0 c1 c2' c3 hbx
        rcases (by omega : ri = 0 ∨ ri = 1 ∨ ri = 2 ∨ ri = 3) with rfl | rfl | rfl | rfl
        · have HATX := Lib.hid hatx
          have HRTX := Lib.hid hrtx
          have HDX : Hid (Rdr wx 2 (.slice q dl ec) dl (icells ys)) := Lib.hid (HDR2.out.g hgx)
          clear hatx hrtx
          go_wp2_with (at_builtin; refine wpList_appendR _ rfl _ _ 22 rfl wx.heap.size 40 i0 (.agg #[.int .i64 0, .int .i64 0]) 2 16 Try.underlying22 hi hz0 hz1 hz2 rfl (by decide) _ 0 [] rfl (World.ownsRow_made wx #[] 0 (Nat.le_refl _) (Nat.zero_le _) rfl) _ dl (icells ys) rfl (HDX.out.g ((G.refl wx).alloc _)) (HONE.out _) (by unfold maxLen; omega) (by omega) (by simp) ?_; intro p8 c8 w8 hown8 hgrow8 hat8; simp only [Nat.zero_add, List.nil_append] at hown8 hat8 ⊢; have hg8 : G wx w8 := ((G.refl wx).alloc _).grown hgrow8 (fun k h => by have := Option.some.inj h; simp at this; omega); have HO8 := Lib.hid hown8; clear hown8 hgrow8 hat8)
          have HDX2 : Hid (Rdr w8 2 (.slice p8 ys.length c8) ys.length (icells ys)) := Lib.hid (by rw [← HDL.out]; exact rdr_of_owns HO8.out)
          have h8 : ∀ g, (Value.slice p8 dl c8).ownBlock = some g → wx.heap.size ≤ g ∧ g < w8.heap.size := fun g hg => HO8.out.lt g hg
          have H8 : Hid (∀ g, (Value.slice p8 ys.length c8).ownBlock = some g → wx.heap.size ≤ g ∧ g < w8.heap.size) := Lib.hid (by rw [← HDL.out]; exact h8)
          have HPU := Lib.hid (push_any S B vB hs ys _ w8 (HATX.out.g hg8) HDX2.out (fun _ g hg h => by have := HIx.out.ltS g h; have := (H8.out g hg).1; omega) (by have := HDL.out; omega))
          rw [← HDL.out] at HPU
          have hx8 := (hg8.block hxz).trans HBX.out
          have hzx8 := hg8.size
          have HI8 := Lib.hid (HIx.out.go hg8)
          clear h8 HATX
          go_wp2_with fail
          refine HPU.out.mono ?_
          rintro e wa ⟨rfl, va, Sa, hata, hgr, hfa⟩
          have hza := hfa.size
          have HIa := Lib.hid (HI8.out.heap ⟨va, hata⟩ hgr hfa)
          have hxa := (hfa.block X (by omega) hSX).trans hx8
          have HOa : Hid (wa.ownsRow wx.heap.size 40 2 (.slice p8 dl c8) dl (icells ys)) := Lib.hid (hfa.ownsRow HO8.out (fun g hg h => by have := HIx.out.ltS g h; have := (HO8.out.lt g hg).1; omega))
          have HOVa := Lib.hid (over_any wx.heap.size ys (.slice p8 dl c8) wa (by rw [← HDL.out]; exact HOa.out) (by have := HDL.out; omega))
          have HDa : Hid (∀ g, (Value.slice p8 dl c8).ownBlock = some g → ¬ Sa g ∧ ¬ T g) := Lib.hid (fun g hg => by
            have h1 := HO8.out.lt g hg
            exact ⟨fun h => by rcases hgr.new g h with h | h
                               · have := HIx.out.ltS g h; omega
                               · omega, fun h => by have := HIx.out.ltT g h; omega⟩)
          clear HPU hata HDX2
          go_wp2_with fail
          refine HOVa.out.mono ?_
          rintro e wb ⟨⟨ub, rfl⟩, hfb⟩
          have hzb := hfb.size
          have HIb := Lib.hid (over_fr HIa.out HOa.out (HIx.out.g.size) HDa.out hfb)
          have hxb := (hfb.block X (by omega) (fun h => by have := (HO8.out.lt X h).1; omega)).trans hxa
          obtain ⟨-, -, -, d3⟩ := box4 hxb
          have HDb : Hid (Rdr wb 2 (.slice q dl ec) ys.length (icells ys)) := Lib.hid (HDR0.out.g HIb.out.g)
          clear HOVa
          go_wp2_with fail
          refine (theirs_any ys _ wb HDb.out (by have := HDL.out; omega)).mono ?_
          rintro e wc ⟨ut, rfl, hownc, hgc⟩
          have HIc := Lib.hid (HIb.out.go hgc)
          obtain ⟨vRc, hrtc⟩ := HIc.out.r
          have hRP := Lib.hid (rpush_any T R vRc L ys ut wc hrtc (rdr_of_owns hownc) (fun _ g hg => by have := (hownc.lt g hg).1; omega) (by have := HDL.out; omega))
          clear hownc hrtc
          go_wp2_with fail
          refine hRP.out.mono ?_
          rintro e wd ⟨⟨ud, rfl⟩, hrd, hfd⟩
          have HI9 := Lib.hid (HIc.out.ref hrd (fun q h => h.imp id (fun h => h.1)) hfd)
          have HL9 := Lib.hid (HL.out.push (by rw [← HDL.out]; exact hd6) HDKD.out)
          obtain ⟨hs9, hhs9⟩ : ∃ hs9, hs9 = pushes hs ys := ⟨_, rfl⟩
          obtain ⟨L9, hL9⟩ : ∃ L9, L9 = inss L ys := ⟨_, rfl⟩
          obtain ⟨T9, hT9⟩ : ∃ T9, T9 = New T wc wd := ⟨_, rfl⟩
          rw [← hhs9, ← hL9, ← hT9] at HI9
          rw [← hhs9, ← hL9] at HL9
          clear hrd hRP HIc HIb HIa HI8 HDb hhs9 hL9 hT9

          -- the tail
          have hlm9 := HL9.out.lim (by omega)
          obtain ⟨v9, hat9⟩ := HI9.out.h
          obtain ⟨r9, hrt9⟩ := HI9.out.r
          obtain ⟨-, rp9, rc9, rfl, -⟩ := id hrt9.rdr
          have HF9 := first_any Sa B v9 hs9 wd hat9
          rw [HL9.out.hl.head, HL9.out.hl.isB] at HF9
          simp only [iv] at HF9
          have HRF9 := fun (W1 : World) (hg : G wd W1) => rfirst_any T9 R _ L9 W1 (hrt9.g hg) (by omega)
          simp only [iv] at HRF9
          have HLE9 : hs9.length = L9.length := HL9.out.hl.len
          have HITM9 := fun (W1 : World) (hg : G wd W1) => items_any Sa B v9 hs9 W1 (hat9.g hg) (by omega)
          rw [HL9.out.all] at HITM9
          have HLN9 := fun (W1 : World) (hg : G wd W1) => len_any Sa B v9 hs9 W1 (hat9.g hg)
          rw [HLE9] at HLN9
          have cR9 := hrt9.box.cell
          have HSM9 := fun (W1 : World) (hg : G wd W1) (uu : Value) (hu : Rdr W1 2 uu L9.length (icells L9)) => same_any L9 uu _ W1 hu (hrt9.g hg).rdr (by omega)
          generalize (at' L9 0).1 = y0 at HF9 HRF9
          generalize (at' L9 0).2 = y1 at HF9 HRF9
          generalize isB L9 = yb at HF9 HRF9
          obtain ⟨ln, hln⟩ : ∃ ln, ln = L9.length := ⟨_, rfl⟩
          have HSM9 := Lib.hid HSM9
          have HITM9 := Lib.hid HITM9
          have HLN9 := Lib.hid HLN9
          have HRF9 := Lib.hid HRF9
          have HF9 := Lib.hid HF9
          rw [← hln] at cR9 HLN9 HSM9 HITM9
          have HLNN := Lib.hid hln
          have hl9 : ln ≤ 500000 := by omega
          clear hln hat9 hrt9 HLE9 hlm9
          go_wp2_with fail
          refine HF9.out.mono ?_
          rintro e f1 ⟨rfl, hgf1⟩
          have hz1 := hgf1.size
          have hga2 : G f1 (f1.alloc (.cells #[.int .i64 y0, .int .i64 y1] 40)) := (G.refl f1).alloc _
          have j0 := cell_alloc_at f1 [.int .i64 y0, .int .i64 y1] 40 (0, 0) 0 (.int .i64 y0) rfl
          have j1 := cell_alloc_at f1 [.int .i64 y0, .int .i64 y1] 40 (0, 0) 1 (.int .i64 y1) rfl
          go_wp2_with fail
          refine (HRF9.out _ (hgf1.trans hga2)).mono ?_
          rintro e f3 ⟨rfl, hgf3⟩
          have hga4 : G f3 (f3.alloc (.cells #[.int .i64 y0, .int .i64 y1] 43)) := (G.refl f3).alloc _
          have l0 := cell_alloc_at f3 [.int .i64 y0, .int .i64 y1] 43 (0, 0) 0 (.int .i64 y0) rfl
          have l1 := cell_alloc_at f3 [.int .i64 y0, .int .i64 y1] 43 (0, 0) 1 (.int .i64 y1) rfl
          have hg94 := (hgf1.trans hga2).trans (hgf3.trans hga4)
          have j0 := (hgf3.trans hga4).cell j0
          have j1 := (hgf3.trans hga4).cell j1
          go_wp2_with fail
          refine (HITM9.out _ hg94).mono ?_
          rintro e f5 ⟨u5, rfl, hown5, hg5⟩
          obtain ⟨p5, c5, rfl⟩ := ownsRow_shape hown5
          have hg95 := hg94.trans hg5
          have j0 := hg5.cell j0
          have j1 := hg5.cell j1
          have l0 := hg5.cell l0
          have l1 := hg5.cell l1
          have cR5 := hg95.cell cR9
          have HOWN5 := Lib.hid hown5
          clear hown5
          go_upto_region 33 with fail
          refine region_hl (fun w' => G f5 w') 99 36 (by kernel_rfl) rfl ?_
          simp only [List.replicate_succ, List.replicate_zero]
          have hs0 : (fun w' => G f5 w') f5.drew := (G.refl f5).drew
          refine hl_take_np 0 (by kernel_rfl) (by kernel_rfl) rfl (by kernel_rfl) hs0 (v := ?_) ?_ ?_
          rotate_left
          · (rintro x hx; have k0 := hx.cell j0; have k1 := hx.cell j1; have k2 := hx.cell l0; have k3 := hx.cell l1; have k4 := hx.cell cR5; clear hx; go_simp; try rfl)
          simp only [Act.put, List.setIfInBounds_toArray, List.set_cons_zero, List.set_cons_succ]
          refine hl_take_np 1 (by kernel_rfl) (by kernel_rfl) rfl (by kernel_rfl) hs0 (v := ?_) ?_ ?_
          rotate_left
          · (rintro x hx; have k0 := hx.cell j0; have k1 := hx.cell j1; have k2 := hx.cell l0; have k3 := hx.cell l1; have k4 := hx.cell cR5; clear hx; go_simp; try rfl)
          simp only [Act.put, List.setIfInBounds_toArray, List.set_cons_zero, List.set_cons_succ]
          refine hl_take_np 2 (by kernel_rfl) (by kernel_rfl) rfl (by kernel_rfl) hs0 (v := ?_) ?_ ?_
          rotate_left
          · (rintro x hx; have k0 := hx.cell j0; have k1 := hx.cell j1; have k2 := hx.cell l0; have k3 := hx.cell l1; have k4 := hx.cell cR5; clear hx; go_simp; try rfl)
          simp only [Act.put, List.setIfInBounds_toArray, List.set_cons_zero, List.set_cons_succ]
          refine hl_take_np 3 (by kernel_rfl) (by kernel_rfl) rfl (by kernel_rfl) hs0 (v := ?_) ?_ ?_
          rotate_left
          · (rintro x hx; have k0 := hx.cell j0; have k1 := hx.cell j1; have k2 := hx.cell l0; have k3 := hx.cell l1; have k4 := hx.cell cR5; clear hx; go_simp; try rfl)
          simp only [Act.put, List.setIfInBounds_toArray, List.set_cons_zero, List.set_cons_succ]
          refine hl_take_np 4 (by kernel_rfl) (by kernel_rfl) rfl (by kernel_rfl) hs0 (v := ?_) ?_ ?_
          rotate_left
          · (rintro x hx; have k0 := hx.cell j0; have k1 := hx.cell j1; have k2 := hx.cell l0; have k3 := hx.cell l1; have k4 := hx.cell cR5; clear hx; go_simp; try rfl)
          simp only [Act.put, List.setIfInBounds_toArray, List.set_cons_zero, List.set_cons_succ]
          refine hl_take_np 5 (by kernel_rfl) (by kernel_rfl) rfl (by kernel_rfl) hs0 (v := ?_) ?_ ?_
          rotate_left
          · (rintro x hx; have k0 := hx.cell j0; have k1 := hx.cell j1; have k2 := hx.cell l0; have k3 := hx.cell l1; have k4 := hx.cell cR5; clear hx; go_simp; try rfl)
          simp only [Act.put, List.setIfInBounds_toArray, List.set_cons_zero, List.set_cons_succ]
          refine hl_take_np 6 (by kernel_rfl) (by kernel_rfl) rfl (by kernel_rfl) hs0 (v := ?_) ?_ ?_
          rotate_left
          · (rintro x hx; have k0 := hx.cell j0; have k1 := hx.cell j1; have k2 := hx.cell l0; have k3 := hx.cell l1; have k4 := hx.cell cR5; clear hx; go_simp; try rfl)
          simp only [Act.put, List.setIfInBounds_toArray, List.set_cons_zero, List.set_cons_succ]
          refine hl_take_np 7 (by kernel_rfl) (by kernel_rfl) rfl (by kernel_rfl) hs0 (v := ?_) ?_ ?_
          rotate_left
          · (rintro x hx; have k0 := hx.cell j0; have k1 := hx.cell j1; have k2 := hx.cell l0; have k3 := hx.cell l1; have k4 := hx.cell cR5; clear hx; go_simp; try rfl)
          simp only [Act.put, List.setIfInBounds_toArray, List.set_cons_zero, List.set_cons_succ]
          refine hl_take_np 8 (by kernel_rfl) (by kernel_rfl) rfl (by kernel_rfl) hs0 (v := ?_) ?_ ?_
          rotate_left
          · (rintro x hx; have k0 := hx.cell j0; have k1 := hx.cell j1; have k2 := hx.cell l0; have k3 := hx.cell l1; have k4 := hx.cell cR5; clear hx; go_simp; try rfl)
          simp only [Act.put, List.setIfInBounds_toArray, List.set_cons_zero, List.set_cons_succ]
          refine hl_take_np 9 (by kernel_rfl) (by kernel_rfl) rfl (by kernel_rfl) hs0 (v := ?_) ?_ ?_
          rotate_left
          · (rintro x hx; have k0 := hx.cell j0; have k1 := hx.cell j1; have k2 := hx.cell l0; have k3 := hx.cell l1; have k4 := hx.cell cR5; clear hx; go_simp; try rfl)
          simp only [Act.put, List.setIfInBounds_toArray, List.set_cons_zero, List.set_cons_succ]
          refine hl_take_np 10 (by kernel_rfl) (by kernel_rfl) rfl (by kernel_rfl) hs0 (v := ?_) ?_ ?_
          rotate_left
          · (rintro x hx; have k0 := hx.cell j0; have k1 := hx.cell j1; have k2 := hx.cell l0; have k3 := hx.cell l1; have k4 := hx.cell cR5; clear hx; go_simp; try rfl)
          simp only [Act.put, List.setIfInBounds_toArray, List.set_cons_zero, List.set_cons_succ]
          refine hl_take_np 11 (by kernel_rfl) (by kernel_rfl) rfl (by kernel_rfl) hs0 (v := ?_) ?_ ?_
          rotate_left
          · (rintro x hx; have k0 := hx.cell j0; have k1 := hx.cell j1; have k2 := hx.cell l0; have k3 := hx.cell l1; have k4 := hx.cell cR5; clear hx; go_simp; try rfl)
          simp only [Act.put, List.setIfInBounds_toArray, List.set_cons_zero, List.set_cons_succ]
          refine hl_take_np 12 (by kernel_rfl) (by kernel_rfl) rfl (by kernel_rfl) hs0 (v := ?_) ?_ ?_
          rotate_left
          · (rintro x hx; have k0 := hx.cell j0; have k1 := hx.cell j1; have k2 := hx.cell l0; have k3 := hx.cell l1; have k4 := hx.cell cR5; clear hx; go_simp; try rfl)
          simp only [Act.put, List.setIfInBounds_toArray, List.set_cons_zero, List.set_cons_succ]
          refine hl_take_np 13 (by kernel_rfl) (by kernel_rfl) rfl (by kernel_rfl) hs0 (v := ?_) ?_ ?_
          rotate_left
          · (rintro x hx; have k0 := hx.cell j0; have k1 := hx.cell j1; have k2 := hx.cell l0; have k3 := hx.cell l1; have k4 := hx.cell cR5; clear hx; go_simp; try rfl)
          simp only [Act.put, List.setIfInBounds_toArray, List.set_cons_zero, List.set_cons_succ]
          refine hl_take_np 14 (by kernel_rfl) (by kernel_rfl) rfl (by kernel_rfl) hs0 (v := ?_) ?_ ?_
          rotate_left
          · (rintro x hx; have k0 := hx.cell j0; have k1 := hx.cell j1; have k2 := hx.cell l0; have k3 := hx.cell l1; have k4 := hx.cell cR5; clear hx; go_simp; try rfl)
          simp only [Act.put, List.setIfInBounds_toArray, List.set_cons_zero, List.set_cons_succ]
          refine hl_take_np 15 (by kernel_rfl) (by kernel_rfl) rfl (by kernel_rfl) hs0 (v := ?_) ?_ ?_
          rotate_left
          · (rintro x hx; have k0 := hx.cell j0; have k1 := hx.cell j1; have k2 := hx.cell l0; have k3 := hx.cell l1; have k4 := hx.cell cR5; clear hx; go_simp; try rfl)
          simp only [Act.put, List.setIfInBounds_toArray, List.set_cons_zero, List.set_cons_succ]
          refine hl_take_np 16 (by kernel_rfl) (by kernel_rfl) rfl (by kernel_rfl) hs0 (v := ?_) ?_ ?_
          rotate_left
          · (rintro x hx; have k0 := hx.cell j0; have k1 := hx.cell j1; have k2 := hx.cell l0; have k3 := hx.cell l1; have k4 := hx.cell cR5; clear hx; go_simp; try rfl)
          simp only [Act.put, List.setIfInBounds_toArray, List.set_cons_zero, List.set_cons_succ]
          refine hl_take_np 17 (by kernel_rfl) (by kernel_rfl) rfl (by kernel_rfl) hs0 (v := ?_) ?_ ?_
          rotate_left
          · (rintro x hx; have k0 := hx.cell j0; have k1 := hx.cell j1; have k2 := hx.cell l0; have k3 := hx.cell l1; have k4 := hx.cell cR5; clear hx; go_simp; try rfl)
          simp only [Act.put, List.setIfInBounds_toArray, List.set_cons_zero, List.set_cons_succ]
          refine hl_take_np 18 (by kernel_rfl) (by kernel_rfl) rfl (by kernel_rfl) hs0 (v := ?_) ?_ ?_
          rotate_left
          · (rintro x hx; have k0 := hx.cell j0; have k1 := hx.cell j1; have k2 := hx.cell l0; have k3 := hx.cell l1; have k4 := hx.cell cR5; clear hx; go_simp; try rfl)
          simp only [Act.put, List.setIfInBounds_toArray, List.set_cons_zero, List.set_cons_succ]
          refine hl_take_np 20 (by kernel_rfl) (by kernel_rfl) rfl (by kernel_rfl) hs0 (v := ?_) ?_ ?_
          rotate_left
          · (rintro x hx; have k0 := hx.cell j0; have k1 := hx.cell j1; have k2 := hx.cell l0; have k3 := hx.cell l1; have k4 := hx.cell cR5; clear hx; go_simp; try rfl)
          simp only [Act.put, List.setIfInBounds_toArray, List.set_cons_zero, List.set_cons_succ]
          refine hl_take_np 21 (by kernel_rfl) (by kernel_rfl) rfl (by kernel_rfl) hs0 (v := ?_) ?_ ?_
          rotate_left
          · (rintro x hx; have k0 := hx.cell j0; have k1 := hx.cell j1; have k2 := hx.cell l0; have k3 := hx.cell l1; have k4 := hx.cell cR5; clear hx; go_simp; try rfl)
          simp only [Act.put, List.setIfInBounds_toArray, List.set_cons_zero, List.set_cons_succ]
          refine hl_take_np 22 (by kernel_rfl) (by kernel_rfl) rfl (by kernel_rfl) hs0 (v := ?_) ?_ ?_
          rotate_left
          · (rintro x hx; have k0 := hx.cell j0; have k1 := hx.cell j1; have k2 := hx.cell l0; have k3 := hx.cell l1; have k4 := hx.cell cR5; clear hx; go_simp; try rfl)
          simp only [Act.put, List.setIfInBounds_toArray, List.set_cons_zero, List.set_cons_succ]
          refine hl_take_np 23 (by kernel_rfl) (by kernel_rfl) rfl (by kernel_rfl) hs0 (v := ?_) ?_ ?_
          rotate_left
          · (rintro x hx; have k0 := hx.cell j0; have k1 := hx.cell j1; have k2 := hx.cell l0; have k3 := hx.cell l1; have k4 := hx.cell cR5; clear hx; go_simp; try rfl)
          simp only [Act.put, List.setIfInBounds_toArray, List.set_cons_zero, List.set_cons_succ]
          refine hl_take_np 24 (by kernel_rfl) (by kernel_rfl) rfl (by kernel_rfl) hs0 (v := ?_) ?_ ?_
          rotate_left
          · (rintro x hx; have k0 := hx.cell j0; have k1 := hx.cell j1; have k2 := hx.cell l0; have k3 := hx.cell l1; have k4 := hx.cell cR5; clear hx; go_simp; try rfl)
          simp only [Act.put, List.setIfInBounds_toArray, List.set_cons_zero, List.set_cons_succ]
          refine hl_stepW 19 (by kernel_rfl) rfl (by kernel_rfl) ?_
          intro K hK
          go_simp
          refine (HLN9.out _ (hg95.trans hs0)).mono ?_
          rintro e f6 ⟨rfl, rfl⟩
          refine hK _ _ (fun _ => hs0) ?_
          clear hK
          simp only [Act.put, List.setIfInBounds_toArray, List.set_cons_zero, List.set_cons_succ]
          refine hl_take_np 25 (by kernel_rfl) (by kernel_rfl) rfl (by kernel_rfl) hs0 (v := ?_) ?_ ?_
          rotate_left
          · (rintro x hx; have k0 := hx.cell j0; have k1 := hx.cell j1; have k2 := hx.cell l0; have k3 := hx.cell l1; have k4 := hx.cell cR5; clear hx; go_simp; try rfl)
          simp only [Act.put, List.setIfInBounds_toArray, List.set_cons_zero, List.set_cons_succ]
          refine hl_take_np 26 (by kernel_rfl) (by kernel_rfl) rfl (by kernel_rfl) hs0 (v := ?_) ?_ ?_
          rotate_left
          · (rintro x hx; have k0 := hx.cell j0; have k1 := hx.cell j1; have k2 := hx.cell l0; have k3 := hx.cell l1; have k4 := hx.cell cR5; clear hx; go_simp; try rfl)
          simp only [Act.put, List.setIfInBounds_toArray, List.set_cons_zero, List.set_cons_succ]
          refine hl_take_np 27 (by kernel_rfl) (by kernel_rfl) rfl (by kernel_rfl) hs0 (v := ?_) ?_ ?_
          rotate_left
          · (rintro x hx; have k0 := hx.cell j0; have k1 := hx.cell j1; have k2 := hx.cell l0; have k3 := hx.cell l1; have k4 := hx.cell cR5; clear hx; go_simp; try rfl)
          simp only [Act.put, List.setIfInBounds_toArray, List.set_cons_zero, List.set_cons_succ]
          refine hl_take_np 28 (by kernel_rfl) (by kernel_rfl) rfl (by kernel_rfl) hs0 (v := ?_) ?_ ?_
          rotate_left
          · (rintro x hx; have k0 := hx.cell j0; have k1 := hx.cell j1; have k2 := hx.cell l0; have k3 := hx.cell l1; have k4 := hx.cell cR5; clear hx; go_simp; try rfl)
          simp only [Act.put, List.setIfInBounds_toArray, List.set_cons_zero, List.set_cons_succ]
          refine hl_take_np 29 (by kernel_rfl) (by kernel_rfl) rfl (by kernel_rfl) hs0 (v := ?_) ?_ ?_
          rotate_left
          · (rintro x hx; have k0 := hx.cell j0; have k1 := hx.cell j1; have k2 := hx.cell l0; have k3 := hx.cell l1; have k4 := hx.cell cR5; clear hx; go_simp; try rfl)
          simp only [Act.put, List.setIfInBounds_toArray, List.set_cons_zero, List.set_cons_succ]
          refine hl_take_np 30 (by kernel_rfl) (by kernel_rfl) rfl (by kernel_rfl) hs0 (v := ?_) ?_ ?_
          rotate_left
          · (rintro x hx; have k0 := hx.cell j0; have k1 := hx.cell j1; have k2 := hx.cell l0; have k3 := hx.cell l1; have k4 := hx.cell cR5; clear hx; go_simp; try rfl)
          simp only [Act.put, List.setIfInBounds_toArray, List.set_cons_zero, List.set_cons_succ]
          refine hl_take_np 31 (by kernel_rfl) (by kernel_rfl) rfl (by kernel_rfl) hs0 (v := ?_) ?_ ?_
          rotate_left
          · (rintro x hx; have k0 := hx.cell j0; have k1 := hx.cell j1; have k2 := hx.cell l0; have k3 := hx.cell l1; have k4 := hx.cell cR5; clear hx; go_simp; try rfl)
          simp only [Act.put, List.setIfInBounds_toArray, List.set_cons_zero, List.set_cons_succ]
          refine hl_take_np 32 (by kernel_rfl) (by kernel_rfl) rfl (by kernel_rfl) hs0 (v := ?_) ?_ ?_
          rotate_left
          · (rintro x hx; have k0 := hx.cell j0; have k1 := hx.cell j1; have k2 := hx.cell l0; have k3 := hx.cell l1; have k4 := hx.cell cR5; clear hx; go_simp; try rfl)
          simp only [Act.put, List.setIfInBounds_toArray, List.set_cons_zero, List.set_cons_succ]
          refine hl_stepW 33 (by kernel_rfl) rfl (by kernel_rfl) ?_
          intro K hK
          go_simp
          refine (HSM9.out _ (hg95.trans hs0) _ (rdr_of_owns (hs0.ownsRow HOWN5.out))).mono ?_
          rintro e f6 ⟨rfl, hg6⟩
          have hs1 := hs0.trans hg6
          refine hK _ _ (fun _ => hs1) ?_
          clear hK
          simp only [Act.put, List.setIfInBounds_toArray, List.set_cons_zero, List.set_cons_succ]
          refine hl_take_np 34 (by kernel_rfl) (by kernel_rfl) rfl (by kernel_rfl) hs1 (v := ?_) ?_ ?_
          rotate_left
          · (rintro x hx; have k0 := hx.cell j0; have k1 := hx.cell j1; have k2 := hx.cell l0; have k3 := hx.cell l1; have k4 := hx.cell cR5; clear hx; go_simp; try rfl)
          simp only [Act.put, List.setIfInBounds_toArray, List.set_cons_zero, List.set_cons_succ]
          refine hl_take_np 35 (by kernel_rfl) (by kernel_rfl) rfl (by kernel_rfl) hs1 (v := ?_) ?_ ?_
          rotate_left
          · (rintro x hx; have k0 := hx.cell j0; have k1 := hx.cell j1; have k2 := hx.cell l0; have k3 := hx.cell l1; have k4 := hx.cell cR5; clear hx; go_simp; try rfl)
          simp only [Act.put, List.setIfInBounds_toArray, List.set_cons_zero, List.set_cons_succ]
          refine hl_done (by kernel_rfl) ?_ _
          refine NoPanic.normal ?_
          have hg96 := hg95.trans hs1
          have hown6 := hs1.ownsRow HOWN5.out
          have hsz9 := (hg94).size
          have HI97 := Lib.hid (HI9.out.go hg96)
          have hwz := HI9.out.g.size
          have HOV9 := Lib.hid (over_any _ L9 _ f6 (by rw [← HLNN.out]; exact hown6) (by rw [← HLNN.out]; omega))
          clear j0 j1 l0 l1 cR5 hs0
          go_wp2_with fail
          refine HOV9.out.mono ?_
          rintro e f7 ⟨⟨u7, rfl⟩, hf7⟩
          have HI98 := Lib.hid (over_fr HI97.out hown6 (Nat.le_trans hwz hsz9) (fun q e => ⟨fun h => by have := HI9.out.ltS q h; have := (hown6.lt q e).1; omega, fun h => by have := HI9.out.ltT q h; have := (hown6.lt q e).1; omega⟩) hf7)
          go_wp2_with fail
          go_roundw
          case rel => exact ⟨k + 1, B, Sa, T9, hs9, L9, by omega, by go_num, rfl, HI98, HL9⟩
          case measure => simp [intOf]; omega
        · have HP := pop_any S B vB hs wx hatx (by omega)
          rw [HL.out.hl.head, HL.out.hl.isB] at HP
          simp only [iv] at HP
          have HRP := fun (W1 : World) (h : RefAt T W1 R vR L) => rpop_any T R vR L W1 h (by omega)
          simp only [iv] at HRP
          generalize (at' L 0).1 = x0 at HP HRP
          generalize (at' L 0).2 = x1 at HP HRP
          generalize isB L = xb at HP HRP
          have HP := Lib.hid HP
          have HRP := Lib.hid HRP
          have HRTX := Lib.hid hrtx
          have hzz := hxz
          clear hatx hrtx
          go_wp2_with fail
          refine HP.out.mono ?_
          rintro e wa ⟨rfl, va, hata, hfa⟩
          have hza := hfa.size
          have hga : G wa (wa.alloc (.cells #[.int .i64 x0, .int .i64 x1] 40)) := (G.refl wa).alloc _
          have HIa := Lib.hid ((HIx.out.heap ⟨va, hata⟩ (Grows.refl S wx) hfa).go hga)
          have HRb : Hid (RefAt T (wa.alloc (.cells #[.int .i64 x0, .int .i64 x1] 40)) R vR L) := Lib.hid ((HRTX.out.fr hfa (fun q hq hs => HIx.out.ap q hs hq)).g hga)
          have m0 := cell_alloc_at wa [.int .i64 x0, .int .i64 x1] 40 (0, 0) 0 (.int .i64 x0) rfl
          have m1 := cell_alloc_at wa [.int .i64 x0, .int .i64 x1] 40 (0, 0) 1 (.int .i64 x1) rfl
          clear hata HP
          go_wp2_with fail
          refine (HRP.out _ HRb.out).mono ?_
          rintro e wc ⟨rfl, hrc, hfc⟩
          have HIc := Lib.hid (HIa.out.ref hrc (fun q h => .inl h) hfc)
          have m0 := hfc.cell (p := ⟨wa.heap.size, 0, none⟩) (by show ¬ wa.heap.size = R; omega) m0
          have m1 := hfc.cell (p := ⟨wa.heap.size, 1, none⟩) (by show ¬ wa.heap.size = R; omega) m1
          have hgc : G wc (wc.alloc (.cells #[.int .i64 x0, .int .i64 x1] 43)) := (G.refl wc).alloc _
          have m0 := hgc.cell m0
          have m1 := hgc.cell m1
          have n0 := cell_alloc_at wc [.int .i64 x0, .int .i64 x1] 43 (0, 0) 0 (.int .i64 x0) rfl
          have n1 := cell_alloc_at wc [.int .i64 x0, .int .i64 x1] 43 (0, 0) 1 (.int .i64 x1) rfl
          have HI9 := Lib.hid (HIc.out.go hgc)
          have HL9 := Lib.hid HL.out.pop
          obtain ⟨hs9, hhs9⟩ : ∃ hs9, hs9 = popL hs := ⟨_, rfl⟩
          obtain ⟨L9, hL9⟩ : ∃ L9, L9 = L.tail := ⟨_, rfl⟩
          rw [← hhs9, ← hL9] at HI9 HL9
          clear hrc HRP HRb HIc HIa hhs9 hL9

          -- the tail
          have hlm9 := HL9.out.lim (by omega)
          obtain ⟨v9, hat9⟩ := HI9.out.h
          obtain ⟨r9, hrt9⟩ := HI9.out.r
          obtain ⟨-, rp9, rc9, rfl, -⟩ := id hrt9.rdr
          have HF9 := first_any S B v9 hs9 (wc.alloc (.cells #[.int .i64 x0, .int .i64 x1] 43)) hat9
          rw [HL9.out.hl.head, HL9.out.hl.isB] at HF9
          simp only [iv] at HF9
          have HRF9 := fun (W1 : World) (hg : G (wc.alloc (.cells #[.int .i64 x0, .int .i64 x1] 43)) W1) => rfirst_any T R _ L9 W1 (hrt9.g hg) (by omega)
          simp only [iv] at HRF9
          have HLE9 : hs9.length = L9.length := HL9.out.hl.len
          have HITM9 := fun (W1 : World) (hg : G (wc.alloc (.cells #[.int .i64 x0, .int .i64 x1] 43)) W1) => items_any S B v9 hs9 W1 (hat9.g hg) (by omega)
          rw [HL9.out.all] at HITM9
          have HLN9 := fun (W1 : World) (hg : G (wc.alloc (.cells #[.int .i64 x0, .int .i64 x1] 43)) W1) => len_any S B v9 hs9 W1 (hat9.g hg)
          rw [HLE9] at HLN9
          have cR9 := hrt9.box.cell
          have HSM9 := fun (W1 : World) (hg : G (wc.alloc (.cells #[.int .i64 x0, .int .i64 x1] 43)) W1) (uu : Value) (hu : Rdr W1 2 uu L9.length (icells L9)) => same_any L9 uu _ W1 hu (hrt9.g hg).rdr (by omega)
          generalize (at' L9 0).1 = y0 at HF9 HRF9
          generalize (at' L9 0).2 = y1 at HF9 HRF9
          generalize isB L9 = yb at HF9 HRF9
          obtain ⟨ln, hln⟩ : ∃ ln, ln = L9.length := ⟨_, rfl⟩
          have HSM9 := Lib.hid HSM9
          have HITM9 := Lib.hid HITM9
          have HLN9 := Lib.hid HLN9
          have HRF9 := Lib.hid HRF9
          have HF9 := Lib.hid HF9
          rw [← hln] at cR9 HLN9 HSM9 HITM9
          have HLNN := Lib.hid hln
          have hl9 : ln ≤ 500000 := by omega
          clear hln hat9 hrt9 HLE9 hlm9
          go_wp2_with fail
          refine HF9.out.mono ?_
          rintro e f1 ⟨rfl, hgf1⟩
          have hz1 := hgf1.size
          have hga2 : G f1 (f1.alloc (.cells #[.int .i64 y0, .int .i64 y1] 40)) := (G.refl f1).alloc _
          have j0 := cell_alloc_at f1 [.int .i64 y0, .int .i64 y1] 40 (0, 0) 0 (.int .i64 y0) rfl
          have j1 := cell_alloc_at f1 [.int .i64 y0, .int .i64 y1] 40 (0, 0) 1 (.int .i64 y1) rfl
          go_wp2_with fail
          refine (HRF9.out _ (hgf1.trans hga2)).mono ?_
          rintro e f3 ⟨rfl, hgf3⟩
          have hga4 : G f3 (f3.alloc (.cells #[.int .i64 y0, .int .i64 y1] 43)) := (G.refl f3).alloc _
          have l0 := cell_alloc_at f3 [.int .i64 y0, .int .i64 y1] 43 (0, 0) 0 (.int .i64 y0) rfl
          have l1 := cell_alloc_at f3 [.int .i64 y0, .int .i64 y1] 43 (0, 0) 1 (.int .i64 y1) rfl
          have hg94 := (hgf1.trans hga2).trans (hgf3.trans hga4)
          have j0 := (hgf3.trans hga4).cell j0
          have j1 := (hgf3.trans hga4).cell j1
          go_wp2_with fail
          refine (HITM9.out _ hg94).mono ?_
          rintro e f5 ⟨u5, rfl, hown5, hg5⟩
          obtain ⟨p5, c5, rfl⟩ := ownsRow_shape hown5
          have hg95 := hg94.trans hg5
          have j0 := hg5.cell j0
          have j1 := hg5.cell j1
          have l0 := hg5.cell l0
          have l1 := hg5.cell l1
          have cR5 := hg95.cell cR9
          have HOWN5 := Lib.hid hown5
          clear hown5
          go_upto_region 33 with fail
          refine region_hl (fun w' => G f5 w') 99 36 (by kernel_rfl) rfl ?_
          simp only [List.replicate_succ, List.replicate_zero]
          have hs0 : (fun w' => G f5 w') f5.drew := (G.refl f5).drew
          refine hl_take_np 0 (by kernel_rfl) (by kernel_rfl) rfl (by kernel_rfl) hs0 (v := ?_) ?_ ?_
          rotate_left
          · (rintro x hx; have k0 := hx.cell j0; have k1 := hx.cell j1; have k2 := hx.cell l0; have k3 := hx.cell l1; have k4 := hx.cell cR5; clear hx; go_simp; try rfl)
          simp only [Act.put, List.setIfInBounds_toArray, List.set_cons_zero, List.set_cons_succ]
          refine hl_take_np 1 (by kernel_rfl) (by kernel_rfl) rfl (by kernel_rfl) hs0 (v := ?_) ?_ ?_
          rotate_left
          · (rintro x hx; have k0 := hx.cell j0; have k1 := hx.cell j1; have k2 := hx.cell l0; have k3 := hx.cell l1; have k4 := hx.cell cR5; clear hx; go_simp; try rfl)
          simp only [Act.put, List.setIfInBounds_toArray, List.set_cons_zero, List.set_cons_succ]
          refine hl_take_np 2 (by kernel_rfl) (by kernel_rfl) rfl (by kernel_rfl) hs0 (v := ?_) ?_ ?_
          rotate_left
          · (rintro x hx; have k0 := hx.cell j0; have k1 := hx.cell j1; have k2 := hx.cell l0; have k3 := hx.cell l1; have k4 := hx.cell cR5; clear hx; go_simp; try rfl)
          simp only [Act.put, List.setIfInBounds_toArray, List.set_cons_zero, List.set_cons_succ]
          refine hl_take_np 3 (by kernel_rfl) (by kernel_rfl) rfl (by kernel_rfl) hs0 (v := ?_) ?_ ?_
          rotate_left
          · (rintro x hx; have k0 := hx.cell j0; have k1 := hx.cell j1; have k2 := hx.cell l0; have k3 := hx.cell l1; have k4 := hx.cell cR5; clear hx; go_simp; try rfl)
          simp only [Act.put, List.setIfInBounds_toArray, List.set_cons_zero, List.set_cons_succ]
          refine hl_take_np 4 (by kernel_rfl) (by kernel_rfl) rfl (by kernel_rfl) hs0 (v := ?_) ?_ ?_
          rotate_left
          · (rintro x hx; have k0 := hx.cell j0; have k1 := hx.cell j1; have k2 := hx.cell l0; have k3 := hx.cell l1; have k4 := hx.cell cR5; clear hx; go_simp; try rfl)
          simp only [Act.put, List.setIfInBounds_toArray, List.set_cons_zero, List.set_cons_succ]
          refine hl_take_np 5 (by kernel_rfl) (by kernel_rfl) rfl (by kernel_rfl) hs0 (v := ?_) ?_ ?_
          rotate_left
          · (rintro x hx; have k0 := hx.cell j0; have k1 := hx.cell j1; have k2 := hx.cell l0; have k3 := hx.cell l1; have k4 := hx.cell cR5; clear hx; go_simp; try rfl)
          simp only [Act.put, List.setIfInBounds_toArray, List.set_cons_zero, List.set_cons_succ]
          refine hl_take_np 6 (by kernel_rfl) (by kernel_rfl) rfl (by kernel_rfl) hs0 (v := ?_) ?_ ?_
          rotate_left
          · (rintro x hx; have k0 := hx.cell j0; have k1 := hx.cell j1; have k2 := hx.cell l0; have k3 := hx.cell l1; have k4 := hx.cell cR5; clear hx; go_simp; try rfl)
          simp only [Act.put, List.setIfInBounds_toArray, List.set_cons_zero, List.set_cons_succ]
          refine hl_take_np 7 (by kernel_rfl) (by kernel_rfl) rfl (by kernel_rfl) hs0 (v := ?_) ?_ ?_
          rotate_left
          · (rintro x hx; have k0 := hx.cell j0; have k1 := hx.cell j1; have k2 := hx.cell l0; have k3 := hx.cell l1; have k4 := hx.cell cR5; clear hx; go_simp; try rfl)
          simp only [Act.put, List.setIfInBounds_toArray, List.set_cons_zero, List.set_cons_succ]
          refine hl_take_np 8 (by kernel_rfl) (by kernel_rfl) rfl (by kernel_rfl) hs0 (v := ?_) ?_ ?_
          rotate_left
          · (rintro x hx; have k0 := hx.cell j0; have k1 := hx.cell j1; have k2 := hx.cell l0; have k3 := hx.cell l1; have k4 := hx.cell cR5; clear hx; go_simp; try rfl)
          simp only [Act.put, List.setIfInBounds_toArray, List.set_cons_zero, List.set_cons_succ]
          refine hl_take_np 9 (by kernel_rfl) (by kernel_rfl) rfl (by kernel_rfl) hs0 (v := ?_) ?_ ?_
          rotate_left
          · (rintro x hx; have k0 := hx.cell j0; have k1 := hx.cell j1; have k2 := hx.cell l0; have k3 := hx.cell l1; have k4 := hx.cell cR5; clear hx; go_simp; try rfl)
          simp only [Act.put, List.setIfInBounds_toArray, List.set_cons_zero, List.set_cons_succ]
          refine hl_take_np 10 (by kernel_rfl) (by kernel_rfl) rfl (by kernel_rfl) hs0 (v := ?_) ?_ ?_
          rotate_left
          · (rintro x hx; have k0 := hx.cell j0; have k1 := hx.cell j1; have k2 := hx.cell l0; have k3 := hx.cell l1; have k4 := hx.cell cR5; clear hx; go_simp; try rfl)
          simp only [Act.put, List.setIfInBounds_toArray, List.set_cons_zero, List.set_cons_succ]
          refine hl_take_np 11 (by kernel_rfl) (by kernel_rfl) rfl (by kernel_rfl) hs0 (v := ?_) ?_ ?_
          rotate_left
          · (rintro x hx; have k0 := hx.cell j0; have k1 := hx.cell j1; have k2 := hx.cell l0; have k3 := hx.cell l1; have k4 := hx.cell cR5; clear hx; go_simp; try rfl)
          simp only [Act.put, List.setIfInBounds_toArray, List.set_cons_zero, List.set_cons_succ]
          refine hl_take_np 12 (by kernel_rfl) (by kernel_rfl) rfl (by kernel_rfl) hs0 (v := ?_) ?_ ?_
          rotate_left
          · (rintro x hx; have k0 := hx.cell j0; have k1 := hx.cell j1; have k2 := hx.cell l0; have k3 := hx.cell l1; have k4 := hx.cell cR5; clear hx; go_simp; try rfl)
          simp only [Act.put, List.setIfInBounds_toArray, List.set_cons_zero, List.set_cons_succ]
          refine hl_take_np 13 (by kernel_rfl) (by kernel_rfl) rfl (by kernel_rfl) hs0 (v := ?_) ?_ ?_
          rotate_left
          · (rintro x hx; have k0 := hx.cell j0; have k1 := hx.cell j1; have k2 := hx.cell l0; have k3 := hx.cell l1; have k4 := hx.cell cR5; clear hx; go_simp; try rfl)
          simp only [Act.put, List.setIfInBounds_toArray, List.set_cons_zero, List.set_cons_succ]
          refine hl_take_np 14 (by kernel_rfl) (by kernel_rfl) rfl (by kernel_rfl) hs0 (v := ?_) ?_ ?_
          rotate_left
          · (rintro x hx; have k0 := hx.cell j0; have k1 := hx.cell j1; have k2 := hx.cell l0; have k3 := hx.cell l1; have k4 := hx.cell cR5; clear hx; go_simp; try rfl)
          simp only [Act.put, List.setIfInBounds_toArray, List.set_cons_zero, List.set_cons_succ]
          refine hl_take_np 15 (by kernel_rfl) (by kernel_rfl) rfl (by kernel_rfl) hs0 (v := ?_) ?_ ?_
          rotate_left
          · (rintro x hx; have k0 := hx.cell j0; have k1 := hx.cell j1; have k2 := hx.cell l0; have k3 := hx.cell l1; have k4 := hx.cell cR5; clear hx; go_simp; try rfl)
          simp only [Act.put, List.setIfInBounds_toArray, List.set_cons_zero, List.set_cons_succ]
          refine hl_take_np 16 (by kernel_rfl) (by kernel_rfl) rfl (by kernel_rfl) hs0 (v := ?_) ?_ ?_
          rotate_left
          · (rintro x hx; have k0 := hx.cell j0; have k1 := hx.cell j1; have k2 := hx.cell l0; have k3 := hx.cell l1; have k4 := hx.cell cR5; clear hx; go_simp; try rfl)
          simp only [Act.put, List.setIfInBounds_toArray, List.set_cons_zero, List.set_cons_succ]
          refine hl_take_np 17 (by kernel_rfl) (by kernel_rfl) rfl (by kernel_rfl) hs0 (v := ?_) ?_ ?_
          rotate_left
          · (rintro x hx; have k0 := hx.cell j0; have k1 := hx.cell j1; have k2 := hx.cell l0; have k3 := hx.cell l1; have k4 := hx.cell cR5; clear hx; go_simp; try rfl)
          simp only [Act.put, List.setIfInBounds_toArray, List.set_cons_zero, List.set_cons_succ]
          refine hl_take_np 18 (by kernel_rfl) (by kernel_rfl) rfl (by kernel_rfl) hs0 (v := ?_) ?_ ?_
          rotate_left
          · (rintro x hx; have k0 := hx.cell j0; have k1 := hx.cell j1; have k2 := hx.cell l0; have k3 := hx.cell l1; have k4 := hx.cell cR5; clear hx; go_simp; try rfl)
          simp only [Act.put, List.setIfInBounds_toArray, List.set_cons_zero, List.set_cons_succ]
          refine hl_take_np 20 (by kernel_rfl) (by kernel_rfl) rfl (by kernel_rfl) hs0 (v := ?_) ?_ ?_
          rotate_left
          · (rintro x hx; have k0 := hx.cell j0; have k1 := hx.cell j1; have k2 := hx.cell l0; have k3 := hx.cell l1; have k4 := hx.cell cR5; clear hx; go_simp; try rfl)
          simp only [Act.put, List.setIfInBounds_toArray, List.set_cons_zero, List.set_cons_succ]
          refine hl_take_np 21 (by kernel_rfl) (by kernel_rfl) rfl (by kernel_rfl) hs0 (v := ?_) ?_ ?_
          rotate_left
          · (rintro x hx; have k0 := hx.cell j0; have k1 := hx.cell j1; have k2 := hx.cell l0; have k3 := hx.cell l1; have k4 := hx.cell cR5; clear hx; go_simp; try rfl)
          simp only [Act.put, List.setIfInBounds_toArray, List.set_cons_zero, List.set_cons_succ]
          refine hl_take_np 22 (by kernel_rfl) (by kernel_rfl) rfl (by kernel_rfl) hs0 (v := ?_) ?_ ?_
          rotate_left
          · (rintro x hx; have k0 := hx.cell j0; have k1 := hx.cell j1; have k2 := hx.cell l0; have k3 := hx.cell l1; have k4 := hx.cell cR5; clear hx; go_simp; try rfl)
          simp only [Act.put, List.setIfInBounds_toArray, List.set_cons_zero, List.set_cons_succ]
          refine hl_take_np 23 (by kernel_rfl) (by kernel_rfl) rfl (by kernel_rfl) hs0 (v := ?_) ?_ ?_
          rotate_left
          · (rintro x hx; have k0 := hx.cell j0; have k1 := hx.cell j1; have k2 := hx.cell l0; have k3 := hx.cell l1; have k4 := hx.cell cR5; clear hx; go_simp; try rfl)
          simp only [Act.put, List.setIfInBounds_toArray, List.set_cons_zero, List.set_cons_succ]
          refine hl_take_np 24 (by kernel_rfl) (by kernel_rfl) rfl (by kernel_rfl) hs0 (v := ?_) ?_ ?_
          rotate_left
          · (rintro x hx; have k0 := hx.cell j0; have k1 := hx.cell j1; have k2 := hx.cell l0; have k3 := hx.cell l1; have k4 := hx.cell cR5; clear hx; go_simp; try rfl)
          simp only [Act.put, List.setIfInBounds_toArray, List.set_cons_zero, List.set_cons_succ]
          refine hl_stepW 19 (by kernel_rfl) rfl (by kernel_rfl) ?_
          intro K hK
          go_simp
          refine (HLN9.out _ (hg95.trans hs0)).mono ?_
          rintro e f6 ⟨rfl, rfl⟩
          refine hK _ _ (fun _ => hs0) ?_
          clear hK
          simp only [Act.put, List.setIfInBounds_toArray, List.set_cons_zero, List.set_cons_succ]
          refine hl_take_np 25 (by kernel_rfl) (by kernel_rfl) rfl (by kernel_rfl) hs0 (v := ?_) ?_ ?_
          rotate_left
          · (rintro x hx; have k0 := hx.cell j0; have k1 := hx.cell j1; have k2 := hx.cell l0; have k3 := hx.cell l1; have k4 := hx.cell cR5; clear hx; go_simp; try rfl)
          simp only [Act.put, List.setIfInBounds_toArray, List.set_cons_zero, List.set_cons_succ]
          refine hl_take_np 26 (by kernel_rfl) (by kernel_rfl) rfl (by kernel_rfl) hs0 (v := ?_) ?_ ?_
          rotate_left
          · (rintro x hx; have k0 := hx.cell j0; have k1 := hx.cell j1; have k2 := hx.cell l0; have k3 := hx.cell l1; have k4 := hx.cell cR5; clear hx; go_simp; try rfl)
          simp only [Act.put, List.setIfInBounds_toArray, List.set_cons_zero, List.set_cons_succ]
          refine hl_take_np 27 (by kernel_rfl) (by kernel_rfl) rfl (by kernel_rfl) hs0 (v := ?_) ?_ ?_
          rotate_left
          · (rintro x hx; have k0 := hx.cell j0; have k1 := hx.cell j1; have k2 := hx.cell l0; have k3 := hx.cell l1; have k4 := hx.cell cR5; clear hx; go_simp; try rfl)
          simp only [Act.put, List.setIfInBounds_toArray, List.set_cons_zero, List.set_cons_succ]
          refine hl_take_np 28 (by kernel_rfl) (by kernel_rfl) rfl (by kernel_rfl) hs0 (v := ?_) ?_ ?_
          rotate_left
          · (rintro x hx; have k0 := hx.cell j0; have k1 := hx.cell j1; have k2 := hx.cell l0; have k3 := hx.cell l1; have k4 := hx.cell cR5; clear hx; go_simp; try rfl)
          simp only [Act.put, List.setIfInBounds_toArray, List.set_cons_zero, List.set_cons_succ]
          refine hl_take_np 29 (by kernel_rfl) (by kernel_rfl) rfl (by kernel_rfl) hs0 (v := ?_) ?_ ?_
          rotate_left
          · (rintro x hx; have k0 := hx.cell j0; have k1 := hx.cell j1; have k2 := hx.cell l0; have k3 := hx.cell l1; have k4 := hx.cell cR5; clear hx; go_simp; try rfl)
          simp only [Act.put, List.setIfInBounds_toArray, List.set_cons_zero, List.set_cons_succ]
          refine hl_take_np 30 (by kernel_rfl) (by kernel_rfl) rfl (by kernel_rfl) hs0 (v := ?_) ?_ ?_
          rotate_left
          · (rintro x hx; have k0 := hx.cell j0; have k1 := hx.cell j1; have k2 := hx.cell l0; have k3 := hx.cell l1; have k4 := hx.cell cR5; clear hx; go_simp; try rfl)
          simp only [Act.put, List.setIfInBounds_toArray, List.set_cons_zero, List.set_cons_succ]
          refine hl_take_np 31 (by kernel_rfl) (by kernel_rfl) rfl (by kernel_rfl) hs0 (v := ?_) ?_ ?_
          rotate_left
          · (rintro x hx; have k0 := hx.cell j0; have k1 := hx.cell j1; have k2 := hx.cell l0; have k3 := hx.cell l1; have k4 := hx.cell cR5; clear hx; go_simp; try rfl)
          simp only [Act.put, List.setIfInBounds_toArray, List.set_cons_zero, List.set_cons_succ]
          refine hl_take_np 32 (by kernel_rfl) (by kernel_rfl) rfl (by kernel_rfl) hs0 (v := ?_) ?_ ?_
          rotate_left
          · (rintro x hx; have k0 := hx.cell j0; have k1 := hx.cell j1; have k2 := hx.cell l0; have k3 := hx.cell l1; have k4 := hx.cell cR5; clear hx; go_simp; try rfl)
          simp only [Act.put, List.setIfInBounds_toArray, List.set_cons_zero, List.set_cons_succ]
          refine hl_stepW 33 (by kernel_rfl) rfl (by kernel_rfl) ?_
          intro K hK
          go_simp
          refine (HSM9.out _ (hg95.trans hs0) _ (rdr_of_owns (hs0.ownsRow HOWN5.out))).mono ?_
          rintro e f6 ⟨rfl, hg6⟩
          have hs1 := hs0.trans hg6
          refine hK _ _ (fun _ => hs1) ?_
          clear hK
          simp only [Act.put, List.setIfInBounds_toArray, List.set_cons_zero, List.set_cons_succ]
          refine hl_take_np 34 (by kernel_rfl) (by kernel_rfl) rfl (by kernel_rfl) hs1 (v := ?_) ?_ ?_
          rotate_left
          · (rintro x hx; have k0 := hx.cell j0; have k1 := hx.cell j1; have k2 := hx.cell l0; have k3 := hx.cell l1; have k4 := hx.cell cR5; clear hx; go_simp; try rfl)
          simp only [Act.put, List.setIfInBounds_toArray, List.set_cons_zero, List.set_cons_succ]
          refine hl_take_np 35 (by kernel_rfl) (by kernel_rfl) rfl (by kernel_rfl) hs1 (v := ?_) ?_ ?_
          rotate_left
          · (rintro x hx; have k0 := hx.cell j0; have k1 := hx.cell j1; have k2 := hx.cell l0; have k3 := hx.cell l1; have k4 := hx.cell cR5; clear hx; go_simp; try rfl)
          simp only [Act.put, List.setIfInBounds_toArray, List.set_cons_zero, List.set_cons_succ]
          refine hl_done (by kernel_rfl) ?_ _
          refine NoPanic.normal ?_
          have hg96 := hg95.trans hs1
          have hown6 := hs1.ownsRow HOWN5.out
          have hsz9 := (hg94).size
          have HI97 := Lib.hid (HI9.out.go hg96)
          have hwz := HI9.out.g.size
          have HOV9 := Lib.hid (over_any _ L9 _ f6 (by rw [← HLNN.out]; exact hown6) (by rw [← HLNN.out]; omega))
          clear j0 j1 l0 l1 cR5 hs0
          go_wp2_with fail
          refine HOV9.out.mono ?_
          rintro e f7 ⟨⟨u7, rfl⟩, hf7⟩
          have HI98 := Lib.hid (over_fr HI97.out hown6 (Nat.le_trans hwz hsz9) (fun q e => ⟨fun h => by have := HI9.out.ltS q h; have := (hown6.lt q e).1; omega, fun h => by have := HI9.out.ltT q h; have := (hown6.lt q e).1; omega⟩) hf7)
          go_wp2_with fail
          go_roundw
          case rel => exact ⟨k + 1, B, S, T, hs9, L9, by omega, by go_num, rfl, HI98, HL9⟩
          case measure => simp [intOf]; omega
        · have hlm := HL.out.hl
          clear hatx hrtx b0 b1 b3
          go_wp2_with fail
          refine (pick_any many 9 _ (by omega) (by omega)).mono ?_
          rintro e w7 ⟨⟨r, hr9, rfl⟩, rfl⟩
          go_upto_region 24 with fail
          refine region_hl (fun w' => w'.heap[X]? = some (.cells #[.int .i64 what, .int .i64 key, .int .i64 many, .slice q dl ec] 34 (0, 0))) 99 12 (by kernel_rfl) rfl ?_
          simp only [List.replicate_succ, List.replicate_zero]
          have hs0 : (fun w' : World => w'.heap[X]? = some (.cells #[.int .i64 what, .int .i64 key, .int .i64 many, .slice q dl ec] 34 (0, 0))) wx.drew := ((G.refl wx).drew.block hxz).trans HBX.out
          refine hl_take_np 0 (by kernel_rfl) (by kernel_rfl) rfl (by kernel_rfl) hs0 (v := ?_) ?_ ?_
          rotate_left
          · (rintro x hx; obtain ⟨k0, k1, k2, k3⟩ := box4 hx; clear hx; go_simp; try rfl)
          simp only [Act.put, List.setIfInBounds_toArray, List.set_cons_zero, List.set_cons_succ]
          refine hl_take_np 1 (by kernel_rfl) (by kernel_rfl) rfl (by kernel_rfl) hs0 (v := ?_) ?_ ?_
          rotate_left
          · (rintro x hx; obtain ⟨k0, k1, k2, k3⟩ := box4 hx; clear hx; go_simp; try rfl)
          simp only [Act.put, List.setIfInBounds_toArray, List.set_cons_zero, List.set_cons_succ]
          refine hl_take_np 2 (by kernel_rfl) (by kernel_rfl) rfl (by kernel_rfl) hs0 (v := ?_) ?_ ?_
          rotate_left
          · (rintro x hx; obtain ⟨k0, k1, k2, k3⟩ := box4 hx; clear hx; go_simp; try rfl)
          simp only [Act.put, List.setIfInBounds_toArray, List.set_cons_zero, List.set_cons_succ]
          refine hl_take_np 3 (by kernel_rfl) (by kernel_rfl) rfl (by kernel_rfl) hs0 (v := ?_) ?_ ?_
          rotate_left
          · (rintro x hx; obtain ⟨k0, k1, k2, k3⟩ := box4 hx; clear hx; go_simp; try rfl)
          simp only [Act.put, List.setIfInBounds_toArray, List.set_cons_zero, List.set_cons_succ]
          refine hl_take_np 5 (by kernel_rfl) (by kernel_rfl) rfl (by kernel_rfl) hs0 (v := ?_) ?_ ?_
          rotate_left
          · (rintro x hx; obtain ⟨k0, k1, k2, k3⟩ := box4 hx; clear hx; go_simp; try rfl)
          simp only [Act.put, List.setIfInBounds_toArray, List.set_cons_zero, List.set_cons_succ]
          refine hl_take_np 6 (by kernel_rfl) (by kernel_rfl) rfl (by kernel_rfl) hs0 (v := ?_) ?_ ?_
          rotate_left
          · (rintro x hx; obtain ⟨k0, k1, k2, k3⟩ := box4 hx; clear hx; go_simp; try rfl)
          simp only [Act.put, List.setIfInBounds_toArray, List.set_cons_zero, List.set_cons_succ]
          refine hl_take_np 7 (by kernel_rfl) (by kernel_rfl) rfl (by kernel_rfl) hs0 (v := ?_) ?_ ?_
          rotate_left
          · (rintro x hx; obtain ⟨k0, k1, k2, k3⟩ := box4 hx; clear hx; go_simp; try rfl)
          simp only [Act.put, List.setIfInBounds_toArray, List.set_cons_zero, List.set_cons_succ]
          refine hl_take_np 8 (by kernel_rfl) (by kernel_rfl) rfl (by kernel_rfl) hs0 (v := ?_) ?_ ?_
          rotate_left
          · (rintro x hx; obtain ⟨k0, k1, k2, k3⟩ := box4 hx; clear hx; go_simp; try rfl)
          simp only [Act.put, List.setIfInBounds_toArray, List.set_cons_zero, List.set_cons_succ]
          have HId := Lib.hid (HIx.out.go (G.refl wx).drew)
          obtain ⟨vBd, hatd⟩ := HId.out.h
          obtain ⟨Y, hY⟩ : ∃ Y, Y = (L.takeWhile (upK key)).take r := ⟨_, rfl⟩
          have HTB := Lib.hid (taken_both S B vBd hs L key r wx.drew hatd (by omega) (by omega) hlm)
          rw [← hY] at HTB
          have HRU := Lib.hid (fun (W1 : World) (vr : Value) (h : RefAt T W1 R vr L) => rupto_any T R vr L key r W1 h (by omega) (by omega))
          rw [← hY] at HRU
          have hYl : Y.length ≤ 1000000 := by rw [hY, List.length_take]; omega
          have hxd : wx.heap.size ≤ wx.drew.heap.size := (G.refl wx).drew.size
          clear hY hatd hlm
          refine hl_stepW 4 (by kernel_rfl) rfl (by kernel_rfl) ?_
          intro K hK
          go_simp
          refine HTB.out.mono ?_
          rintro e wa ⟨ua, rfl, hra, hna, hfa, hoa⟩
          have hza := hfa.size
          have hs1 := (hfa.block X (by omega) hSX).trans hs0
          refine hK _ _ (fun _ => hs1) ?_
          clear hK
          simp only [Act.put, List.setIfInBounds_toArray, List.set_cons_zero, List.set_cons_succ]
          have HIa := Lib.hid (HId.out.heap hna (Grows.refl S _) hfa)
          obtain ⟨vra, hrta⟩ := HIa.out.r
          have HRUa := Lib.hid (HRU.out wa vra hrta)
          have HTR : Hid (T R) := Lib.hid hrta.inR
          clear hrta HRU HTB hna
          refine hl_stepW 9 (by kernel_rfl) rfl (by kernel_rfl) ?_
          intro K hK
          go_simp
          refine HRUa.out.mono ?_
          rintro e wb ⟨ub, rfl, hownb, hrtb, hfb⟩
          have hs2 := (hfb.block X (by omega) (fun h => hTX (by rw [h]; exact HTR.out))).trans hs1
          refine hK _ _ (fun _ => hs2) ?_
          clear hK
          simp only [Act.put, List.setIfInBounds_toArray, List.set_cons_zero, List.set_cons_succ]
          have HIb := Lib.hid (HIa.out.ref hrtb (fun q h => .inl h) hfb)
          have hrab : Rdr wb 2 ua Y.length (icells Y) := hra.fr hfb (fun g hg e => by have := hoa g hg; omega)
          have HSA := Lib.hid (same_any Y ua ub wb hrab (rdr_of_owns hownb) hYl)
          clear hra hrab hownb hrtb hoa
          refine hl_stepW 10 (by kernel_rfl) rfl (by kernel_rfl) ?_
          intro K hK
          go_simp
          refine HSA.out.mono ?_
          rintro e wc ⟨rfl, hgc⟩
          have hzab := hfb.size
          have hs3 := (hgc.block (by omega)).trans hs2
          refine hK _ _ (fun _ => hs3) ?_
          clear hK
          simp only [Act.put, List.setIfInBounds_toArray, List.set_cons_zero, List.set_cons_succ]
          refine hl_take_np 11 (by kernel_rfl) (by kernel_rfl) rfl (by kernel_rfl) hs3 (v := ?_) ?_ ?_
          rotate_left
          · (rintro x hx; obtain ⟨k0, k1, k2, k3⟩ := box4 hx; clear hx; go_simp; try rfl)
          simp only [Act.put, List.setIfInBounds_toArray, List.set_cons_zero, List.set_cons_succ]
          refine hl_done (by kernel_rfl) ?_ _
          refine NoPanic.normal ?_
          have HI9 := Lib.hid (HIb.out.go hgc)
          have HL9 := Lib.hid (HL.out.pops (j := Y.length))
          obtain ⟨hs9, hhs9⟩ : ∃ hs9, hs9 = pops Y.length hs := ⟨_, rfl⟩
          obtain ⟨L9, hL9⟩ : ∃ L9, L9 = L.drop Y.length := ⟨_, rfl⟩
          rw [← hhs9, ← hL9] at HI9 HL9
          clear HSA HIb HIa HId hhs9 hL9 hs0 hs1 hs2 hs3

          -- the tail
          have hlm9 := HL9.out.lim (by omega)
          obtain ⟨v9, hat9⟩ := HI9.out.h
          obtain ⟨r9, hrt9⟩ := HI9.out.r
          obtain ⟨-, rp9, rc9, rfl, -⟩ := id hrt9.rdr
          have HF9 := first_any S B v9 hs9 wc hat9
          rw [HL9.out.hl.head, HL9.out.hl.isB] at HF9
          simp only [iv] at HF9
          have HRF9 := fun (W1 : World) (hg : G wc W1) => rfirst_any T R _ L9 W1 (hrt9.g hg) (by omega)
          simp only [iv] at HRF9
          have HLE9 : hs9.length = L9.length := HL9.out.hl.len
          have HITM9 := fun (W1 : World) (hg : G wc W1) => items_any S B v9 hs9 W1 (hat9.g hg) (by omega)
          rw [HL9.out.all] at HITM9
          have HLN9 := fun (W1 : World) (hg : G wc W1) => len_any S B v9 hs9 W1 (hat9.g hg)
          rw [HLE9] at HLN9
          have cR9 := hrt9.box.cell
          have HSM9 := fun (W1 : World) (hg : G wc W1) (uu : Value) (hu : Rdr W1 2 uu L9.length (icells L9)) => same_any L9 uu _ W1 hu (hrt9.g hg).rdr (by omega)
          generalize (at' L9 0).1 = y0 at HF9 HRF9
          generalize (at' L9 0).2 = y1 at HF9 HRF9
          generalize isB L9 = yb at HF9 HRF9
          obtain ⟨ln, hln⟩ : ∃ ln, ln = L9.length := ⟨_, rfl⟩
          have HSM9 := Lib.hid HSM9
          have HITM9 := Lib.hid HITM9
          have HLN9 := Lib.hid HLN9
          have HRF9 := Lib.hid HRF9
          have HF9 := Lib.hid HF9
          rw [← hln] at cR9 HLN9 HSM9 HITM9
          have HLNN := Lib.hid hln
          have hl9 : ln ≤ 500000 := by omega
          clear hln hat9 hrt9 HLE9 hlm9
          go_wp2_with fail
          refine HF9.out.mono ?_
          rintro e f1 ⟨rfl, hgf1⟩
          have hz1 := hgf1.size
          have hga2 : G f1 (f1.alloc (.cells #[.int .i64 y0, .int .i64 y1] 40)) := (G.refl f1).alloc _
          have j0 := cell_alloc_at f1 [.int .i64 y0, .int .i64 y1] 40 (0, 0) 0 (.int .i64 y0) rfl
          have j1 := cell_alloc_at f1 [.int .i64 y0, .int .i64 y1] 40 (0, 0) 1 (.int .i64 y1) rfl
          go_wp2_with fail
          refine (HRF9.out _ (hgf1.trans hga2)).mono ?_
          rintro e f3 ⟨rfl, hgf3⟩
          have hga4 : G f3 (f3.alloc (.cells #[.int .i64 y0, .int .i64 y1] 43)) := (G.refl f3).alloc _
          have l0 := cell_alloc_at f3 [.int .i64 y0, .int .i64 y1] 43 (0, 0) 0 (.int .i64 y0) rfl
          have l1 := cell_alloc_at f3 [.int .i64 y0, .int .i64 y1] 43 (0, 0) 1 (.int .i64 y1) rfl
          have hg94 := (hgf1.trans hga2).trans (hgf3.trans hga4)
          have j0 := (hgf3.trans hga4).cell j0
          have j1 := (hgf3.trans hga4).cell j1
          go_wp2_with fail
          refine (HITM9.out _ hg94).mono ?_
          rintro e f5 ⟨u5, rfl, hown5, hg5⟩
          obtain ⟨p5, c5, rfl⟩ := ownsRow_shape hown5
          have hg95 := hg94.trans hg5
          have j0 := hg5.cell j0
          have j1 := hg5.cell j1
          have l0 := hg5.cell l0
          have l1 := hg5.cell l1
          have cR5 := hg95.cell cR9
          have HOWN5 := Lib.hid hown5
          clear hown5
          go_upto_region 33 with fail
          refine region_hl (fun w' => G f5 w') 99 36 (by kernel_rfl) rfl ?_
          simp only [List.replicate_succ, List.replicate_zero]
          have hs0 : (fun w' => G f5 w') f5.drew := (G.refl f5).drew
          refine hl_take_np 0 (by kernel_rfl) (by kernel_rfl) rfl (by kernel_rfl) hs0 (v := ?_) ?_ ?_
          rotate_left
          · (rintro x hx; have k0 := hx.cell j0; have k1 := hx.cell j1; have k2 := hx.cell l0; have k3 := hx.cell l1; have k4 := hx.cell cR5; clear hx; go_simp; try rfl)
          simp only [Act.put, List.setIfInBounds_toArray, List.set_cons_zero, List.set_cons_succ]
          refine hl_take_np 1 (by kernel_rfl) (by kernel_rfl) rfl (by kernel_rfl) hs0 (v := ?_) ?_ ?_
          rotate_left
          · (rintro x hx; have k0 := hx.cell j0; have k1 := hx.cell j1; have k2 := hx.cell l0; have k3 := hx.cell l1; have k4 := hx.cell cR5; clear hx; go_simp; try rfl)
          simp only [Act.put, List.setIfInBounds_toArray, List.set_cons_zero, List.set_cons_succ]
          refine hl_take_np 2 (by kernel_rfl) (by kernel_rfl) rfl (by kernel_rfl) hs0 (v := ?_) ?_ ?_
          rotate_left
          · (rintro x hx; have k0 := hx.cell j0; have k1 := hx.cell j1; have k2 := hx.cell l0; have k3 := hx.cell l1; have k4 := hx.cell cR5; clear hx; go_simp; try rfl)
          simp only [Act.put, List.setIfInBounds_toArray, List.set_cons_zero, List.set_cons_succ]
          refine hl_take_np 3 (by kernel_rfl) (by kernel_rfl) rfl (by kernel_rfl) hs0 (v := ?_) ?_ ?_
          rotate_left
          · (rintro x hx; have k0 := hx.cell j0; have k1 := hx.cell j1; have k2 := hx.cell l0; have k3 := hx.cell l1; have k4 := hx.cell cR5; clear hx; go_simp; try rfl)
          simp only [Act.put, List.setIfInBounds_toArray, List.set_cons_zero, List.set_cons_succ]
          refine hl_take_np 4 (by kernel_rfl) (by kernel_rfl) rfl (by kernel_rfl) hs0 (v := ?_) ?_ ?_
          rotate_left
          · (rintro x hx; have k0 := hx.cell j0; have k1 := hx.cell j1; have k2 := hx.cell l0; have k3 := hx.cell l1; have k4 := hx.cell cR5; clear hx; go_simp; try rfl)
          simp only [Act.put, List.setIfInBounds_toArray, List.set_cons_zero, List.set_cons_succ]
          refine hl_take_np 5 (by kernel_rfl) (by kernel_rfl) rfl (by kernel_rfl) hs0 (v := ?_) ?_ ?_
          rotate_left
          · (rintro x hx; have k0 := hx.cell j0; have k1 := hx.cell j1; have k2 := hx.cell l0; have k3 := hx.cell l1; have k4 := hx.cell cR5; clear hx; go_simp; try rfl)
          simp only [Act.put, List.setIfInBounds_toArray, List.set_cons_zero, List.set_cons_succ]
          refine hl_take_np 6 (by kernel_rfl) (by kernel_rfl) rfl (by kernel_rfl) hs0 (v := ?_) ?_ ?_
          rotate_left
          · (rintro x hx; have k0 := hx.cell j0; have k1 := hx.cell j1; have k2 := hx.cell l0; have k3 := hx.cell l1; have k4 := hx.cell cR5; clear hx; go_simp; try rfl)
          simp only [Act.put, List.setIfInBounds_toArray, List.set_cons_zero, List.set_cons_succ]
          refine hl_take_np 7 (by kernel_rfl) (by kernel_rfl) rfl (by kernel_rfl) hs0 (v := ?_) ?_ ?_
          rotate_left
          · (rintro x hx; have k0 := hx.cell j0; have k1 := hx.cell j1; have k2 := hx.cell l0; have k3 := hx.cell l1; have k4 := hx.cell cR5; clear hx; go_simp; try rfl)
          simp only [Act.put, List.setIfInBounds_toArray, List.set_cons_zero, List.set_cons_succ]
          refine hl_take_np 8 (by kernel_rfl) (by kernel_rfl) rfl (by kernel_rfl) hs0 (v := ?_) ?_ ?_
          rotate_left
          · (rintro x hx; have k0 := hx.cell j0; have k1 := hx.cell j1; have k2 := hx.cell l0; have k3 := hx.cell l1; have k4 := hx.cell cR5; clear hx; go_simp; try rfl)
          simp only [Act.put, List.setIfInBounds_toArray, List.set_cons_zero, List.set_cons_succ]
          refine hl_take_np 9 (by kernel_rfl) (by kernel_rfl) rfl (by kernel_rfl) hs0 (v := ?_) ?_ ?_
          rotate_left
          · (rintro x hx; have k0 := hx.cell j0; have k1 := hx.cell j1; have k2 := hx.cell l0; have k3 := hx.cell l1; have k4 := hx.cell cR5; clear hx; go_simp; try rfl)
          simp only [Act.put, List.setIfInBounds_toArray, List.set_cons_zero, List.set_cons_succ]
          refine hl_take_np 10 (by kernel_rfl) (by kernel_rfl) rfl (by kernel_rfl) hs0 (v := ?_) ?_ ?_
          rotate_left
          · (rintro x hx; have k0 := hx.cell j0; have k1 := hx.cell j1; have k2 := hx.cell l0; have k3 := hx.cell l1; have k4 := hx.cell cR5; clear hx; go_simp; try rfl)
          simp only [Act.put, List.setIfInBounds_toArray, List.set_cons_zero, List.set_cons_succ]
          refine hl_take_np 11 (by kernel_rfl) (by kernel_rfl) rfl (by kernel_rfl) hs0 (v := ?_) ?_ ?_
          rotate_left
          · (rintro x hx; have k0 := hx.cell j0; have k1 := hx.cell j1; have k2 := hx.cell l0; have k3 := hx.cell l1; have k4 := hx.cell cR5; clear hx; go_simp; try rfl)
          simp only [Act.put, List.setIfInBounds_toArray, List.set_cons_zero, List.set_cons_succ]
          refine hl_take_np 12 (by kernel_rfl) (by kernel_rfl) rfl (by kernel_rfl) hs0 (v := ?_) ?_ ?_
          rotate_left
          · (rintro x hx; have k0 := hx.cell j0; have k1 := hx.cell j1; have k2 := hx.cell l0; have k3 := hx.cell l1; have k4 := hx.cell cR5; clear hx; go_simp; try rfl)
          simp only [Act.put, List.setIfInBounds_toArray, List.set_cons_zero, List.set_cons_succ]
          refine hl_take_np 13 (by kernel_rfl) (by kernel_rfl) rfl (by kernel_rfl) hs0 (v := ?_) ?_ ?_
          rotate_left
          · (rintro x hx; have k0 := hx.cell j0; have k1 := hx.cell j1; have k2 := hx.cell l0; have k3 := hx.cell l1; have k4 := hx.cell cR5; clear hx; go_simp; try rfl)
          simp only [Act.put, List.setIfInBounds_toArray, List.set_cons_zero, List.set_cons_succ]
          refine hl_take_np 14 (by kernel_rfl) (by kernel_rfl) rfl (by kernel_rfl) hs0 (v := ?_) ?_ ?_
          rotate_left
          · (rintro x hx; have k0 := hx.cell j0; have k1 := hx.cell j1; have k2 := hx.cell l0; have k3 := hx.cell l1; have k4 := hx.cell cR5; clear hx; go_simp; try rfl)
          simp only [Act.put, List.setIfInBounds_toArray, List.set_cons_zero, List.set_cons_succ]
          refine hl_take_np 15 (by kernel_rfl) (by kernel_rfl) rfl (by kernel_rfl) hs0 (v := ?_) ?_ ?_
          rotate_left
          · (rintro x hx; have k0 := hx.cell j0; have k1 := hx.cell j1; have k2 := hx.cell l0; have k3 := hx.cell l1; have k4 := hx.cell cR5; clear hx; go_simp; try rfl)
          simp only [Act.put, List.setIfInBounds_toArray, List.set_cons_zero, List.set_cons_succ]
          refine hl_take_np 16 (by kernel_rfl) (by kernel_rfl) rfl (by kernel_rfl) hs0 (v := ?_) ?_ ?_
          rotate_left
          · (rintro x hx; have k0 := hx.cell j0; have k1 := hx.cell j1; have k2 := hx.cell l0; have k3 := hx.cell l1; have k4 := hx.cell cR5; clear hx; go_simp; try rfl)
          simp only [Act.put, List.setIfInBounds_toArray, List.set_cons_zero, List.set_cons_succ]
          refine hl_take_np 17 (by kernel_rfl) (by kernel_rfl) rfl (by kernel_rfl) hs0 (v := ?_) ?_ ?_
          rotate_left
          · (rintro x hx; have k0 := hx.cell j0; have k1 := hx.cell j1; have k2 := hx.cell l0; have k3 := hx.cell l1; have k4 := hx.cell cR5; clear hx; go_simp; try rfl)
          simp only [Act.put, List.setIfInBounds_toArray, List.set_cons_zero, List.set_cons_succ]
          refine hl_take_np 18 (by kernel_rfl) (by kernel_rfl) rfl (by kernel_rfl) hs0 (v := ?_) ?_ ?_
          rotate_left
          · (rintro x hx; have k0 := hx.cell j0; have k1 := hx.cell j1; have k2 := hx.cell l0; have k3 := hx.cell l1; have k4 := hx.cell cR5; clear hx; go_simp; try rfl)
          simp only [Act.put, List.setIfInBounds_toArray, List.set_cons_zero, List.set_cons_succ]
          refine hl_take_np 20 (by kernel_rfl) (by kernel_rfl) rfl (by kernel_rfl) hs0 (v := ?_) ?_ ?_
          rotate_left
          · (rintro x hx; have k0 := hx.cell j0; have k1 := hx.cell j1; have k2 := hx.cell l0; have k3 := hx.cell l1; have k4 := hx.cell cR5; clear hx; go_simp; try rfl)
          simp only [Act.put, List.setIfInBounds_toArray, List.set_cons_zero, List.set_cons_succ]
          refine hl_take_np 21 (by kernel_rfl) (by kernel_rfl) rfl (by kernel_rfl) hs0 (v := ?_) ?_ ?_
          rotate_left
          · (rintro x hx; have k0 := hx.cell j0; have k1 := hx.cell j1; have k2 := hx.cell l0; have k3 := hx.cell l1; have k4 := hx.cell cR5; clear hx; go_simp; try rfl)
          simp only [Act.put, List.setIfInBounds_toArray, List.set_cons_zero, List.set_cons_succ]
          refine hl_take_np 22 (by kernel_rfl) (by kernel_rfl) rfl (by kernel_rfl) hs0 (v := ?_) ?_ ?_
          rotate_left
          · (rintro x hx; have k0 := hx.cell j0; have k1 := hx.cell j1; have k2 := hx.cell l0; have k3 := hx.cell l1; have k4 := hx.cell cR5; clear hx; go_simp; try rfl)
          simp only [Act.put, List.setIfInBounds_toArray, List.set_cons_zero, List.set_cons_succ]
          refine hl_take_np 23 (by kernel_rfl) (by kernel_rfl) rfl (by kernel_rfl) hs0 (v := ?_) ?_ ?_
          rotate_left
          · (rintro x hx; have k0 := hx.cell j0; have k1 := hx.cell j1; have k2 := hx.cell l0; have k3 := hx.cell l1; have k4 := hx.cell cR5; clear hx; go_simp; try rfl)
          simp only [Act.put, List.setIfInBounds_toArray, List.set_cons_zero, List.set_cons_succ]
          refine hl_take_np 24 (by kernel_rfl) (by kernel_rfl) rfl (by kernel_rfl) hs0 (v := ?_) ?_ ?_
          rotate_left
          · (rintro x hx; have k0 := hx.cell j0; have k1 := hx.cell j1; have k2 := hx.cell l0; have k3 := hx.cell l1; have k4 := hx.cell cR5; clear hx; go_simp; try rfl)
          simp only [Act.put, List.setIfInBounds_toArray, List.set_cons_zero, List.set_cons_succ]
          refine hl_stepW 19 (by kernel_rfl) rfl (by kernel_rfl) ?_
          intro K hK
          go_simp
          refine (HLN9.out _ (hg95.trans hs0)).mono ?_
          rintro e f6 ⟨rfl, rfl⟩
          refine hK _ _ (fun _ => hs0) ?_
          clear hK
          simp only [Act.put, List.setIfInBounds_toArray, List.set_cons_zero, List.set_cons_succ]
          refine hl_take_np 25 (by kernel_rfl) (by kernel_rfl) rfl (by kernel_rfl) hs0 (v := ?_) ?_ ?_
          rotate_left
          · (rintro x hx; have k0 := hx.cell j0; have k1 := hx.cell j1; have k2 := hx.cell l0; have k3 := hx.cell l1; have k4 := hx.cell cR5; clear hx; go_simp; try rfl)
          simp only [Act.put, List.setIfInBounds_toArray, List.set_cons_zero, List.set_cons_succ]
          refine hl_take_np 26 (by kernel_rfl) (by kernel_rfl) rfl (by kernel_rfl) hs0 (v := ?_) ?_ ?_
          rotate_left
          · (rintro x hx; have k0 := hx.cell j0; have k1 := hx.cell j1; have k2 := hx.cell l0; have k3 := hx.cell l1; have k4 := hx.cell cR5; clear hx; go_simp; try rfl)
          simp only [Act.put, List.setIfInBounds_toArray, List.set_cons_zero, List.set_cons_succ]
          refine hl_take_np 27 (by kernel_rfl) (by kernel_rfl) rfl (by kernel_rfl) hs0 (v := ?_) ?_ ?_
          rotate_left
          · (rintro x hx; have k0 := hx.cell j0; have k1 := hx.cell j1; have k2 := hx.cell l0; have k3 := hx.cell l1; have k4 := hx.cell cR5; clear hx; go_simp; try rfl)
          simp only [Act.put, List.setIfInBounds_toArray, List.set_cons_zero, List.set_cons_succ]
          refine hl_take_np 28 (by kernel_rfl) (by kernel_rfl) rfl (by kernel_rfl) hs0 (v := ?_) ?_ ?_
          rotate_left
          · (rintro x hx; have k0 := hx.cell j0; have k1 := hx.cell j1; have k2 := hx.cell l0; have k3 := hx.cell l1; have k4 := hx.cell cR5; clear hx; go_simp; try rfl)
          simp only [Act.put, List.setIfInBounds_toArray, List.set_cons_zero, List.set_cons_succ]
          refine hl_take_np 29 (by kernel_rfl) (by kernel_rfl) rfl (by kernel_rfl) hs0 (v := ?_) ?_ ?_
          rotate_left
          · (rintro x hx; have k0 := hx.cell j0; have k1 := hx.cell j1; have k2 := hx.cell l0; have k3 := hx.cell l1; have k4 := hx.cell cR5; clear hx; go_simp; try rfl)
          simp only [Act.put, List.setIfInBounds_toArray, List.set_cons_zero, List.set_cons_succ]
          refine hl_take_np 30 (by kernel_rfl) (by kernel_rfl) rfl (by kernel_rfl) hs0 (v := ?_) ?_ ?_
          rotate_left
          · (rintro x hx; have k0 := hx.cell j0; have k1 := hx.cell j1; have k2 := hx.cell l0; have k3 := hx.cell l1; have k4 := hx.cell cR5; clear hx; go_simp; try rfl)
          simp only [Act.put, List.setIfInBounds_toArray, List.set_cons_zero, List.set_cons_succ]
          refine hl_take_np 31 (by kernel_rfl) (by kernel_rfl) rfl (by kernel_rfl) hs0 (v := ?_) ?_ ?_
          rotate_left
          · (rintro x hx; have k0 := hx.cell j0; have k1 := hx.cell j1; have k2 := hx.cell l0; have k3 := hx.cell l1; have k4 := hx.cell cR5; clear hx; go_simp; try rfl)
          simp only [Act.put, List.setIfInBounds_toArray, List.set_cons_zero, List.set_cons_succ]
          refine hl_take_np 32 (by kernel_rfl) (by kernel_rfl) rfl (by kernel_rfl) hs0 (v := ?_) ?_ ?_
          rotate_left
          · (rintro x hx; have k0 := hx.cell j0; have k1 := hx.cell j1; have k2 := hx.cell l0; have k3 := hx.cell l1; have k4 := hx.cell cR5; clear hx; go_simp; try rfl)
          simp only [Act.put, List.setIfInBounds_toArray, List.set_cons_zero, List.set_cons_succ]
          refine hl_stepW 33 (by kernel_rfl) rfl (by kernel_rfl) ?_
          intro K hK
          go_simp
          refine (HSM9.out _ (hg95.trans hs0) _ (rdr_of_owns (hs0.ownsRow HOWN5.out))).mono ?_
          rintro e f6 ⟨rfl, hg6⟩
          have hs1 := hs0.trans hg6
          refine hK _ _ (fun _ => hs1) ?_
          clear hK
          simp only [Act.put, List.setIfInBounds_toArray, List.set_cons_zero, List.set_cons_succ]
          refine hl_take_np 34 (by kernel_rfl) (by kernel_rfl) rfl (by kernel_rfl) hs1 (v := ?_) ?_ ?_
          rotate_left
          · (rintro x hx; have k0 := hx.cell j0; have k1 := hx.cell j1; have k2 := hx.cell l0; have k3 := hx.cell l1; have k4 := hx.cell cR5; clear hx; go_simp; try rfl)
          simp only [Act.put, List.setIfInBounds_toArray, List.set_cons_zero, List.set_cons_succ]
          refine hl_take_np 35 (by kernel_rfl) (by kernel_rfl) rfl (by kernel_rfl) hs1 (v := ?_) ?_ ?_
          rotate_left
          · (rintro x hx; have k0 := hx.cell j0; have k1 := hx.cell j1; have k2 := hx.cell l0; have k3 := hx.cell l1; have k4 := hx.cell cR5; clear hx; go_simp; try rfl)
          simp only [Act.put, List.setIfInBounds_toArray, List.set_cons_zero, List.set_cons_succ]
          refine hl_done (by kernel_rfl) ?_ _
          refine NoPanic.normal ?_
          have hg96 := hg95.trans hs1
          have hown6 := hs1.ownsRow HOWN5.out
          have hsz9 := (hg94).size
          have HI97 := Lib.hid (HI9.out.go hg96)
          have hwz := HI9.out.g.size
          have HOV9 := Lib.hid (over_any _ L9 _ f6 (by rw [← HLNN.out]; exact hown6) (by rw [← HLNN.out]; omega))
          clear j0 j1 l0 l1 cR5 hs0
          go_wp2_with fail
          refine HOV9.out.mono ?_
          rintro e f7 ⟨⟨u7, rfl⟩, hf7⟩
          have HI98 := Lib.hid (over_fr HI97.out hown6 (Nat.le_trans hwz hsz9) (fun q e => ⟨fun h => by have := HI9.out.ltS q h; have := (hown6.lt q e).1; omega, fun h => by have := HI9.out.ltT q h; have := (hown6.lt q e).1; omega⟩) hf7)
          go_wp2_with fail
          go_roundw
          case rel => exact ⟨k + 1, B, S, T, hs9, L9, by omega, by go_num, rfl, HI98, HL9⟩
          case measure => simp [intOf]; omega
        · have HCP := Lib.hid (copy_any S B vB hs wx hatx (by omega))
          have HATX := Lib.hid hatx
          clear hatx hrtx b0 b3
          go_wp2_with fail
          refine HCP.out.mono ?_
          rintro e wa ⟨B2, rfl, ⟨v2, S2, hat2, hS2⟩, hga⟩
          have HIa := Lib.hid (HIx.out.copy ⟨v2, hat2⟩ hS2 hga)
          have HSz : Hid (∀ q, S q → q < wx.heap.size ∧ w.heap.size ≤ q ∧ ¬ T q) := Lib.hid (fun q h => ⟨HIx.out.ltS q h, HIx.out.apS q h, HIx.out.ap q h⟩)
          have HS2 := Lib.hid hS2
          have hza := hga.size
          have q1 := hga.cell b1
          have q2 := hga.cell b2
          have hgn : G wa (wa.alloc (.cells #[.int .i64 key, .int .i64 many] 40)) := (G.refl wa).alloc _
          have HPU := Lib.hid (push_any S B vB hs [(key, many)] (.slice (some ⟨wa.heap.size, 0, none⟩) 1 1) (wa.alloc (.cells #[.int .i64 key, .int .i64 many] 40)) (HATX.out.g (hga.trans hgn)) (rdr_of_owns (show (wa.alloc (.cells #[.int .i64 key, .int .i64 many] 40)).ownsRow wa.heap.size 40 2 (.slice (some ⟨wa.heap.size, 0, none⟩) 1 1) 1 (icells [(key, many)]) from ⟨rfl, .inr ⟨wa.heap.size, 1, _, rfl, Nat.le_refl _, alloc_new wa _, Nat.le_refl _, by unfold maxLen; omega, rfl, rfl⟩⟩)) (fun _ g hg h => by have h1 := (HSz.out g h).1; have h2 : wa.heap.size = g := Option.some.inj hg; omega) (by simp; omega))
          clear hat2 hS2 HCP
          go_wp2_with fail
          refine HPU.out.mono ?_
          rintro e wc ⟨rfl, -, -, -, -, hfc⟩
          have HI9 := Lib.hid ((HIa.out.go hgn).fr hfc (fun q h => ⟨fun h2 => by have := HS2.out q h2; have := (HSz.out q h).1; omega, (HSz.out q h).2.2, (HSz.out q h).2.1⟩))
          have HL9 := Lib.hid HL.out.stay
          clear HPU hfc HIa

          -- the tail
          have hlm9 := HL9.out.lim (by omega)
          obtain ⟨v9, hat9⟩ := HI9.out.h
          obtain ⟨r9, hrt9⟩ := HI9.out.r
          obtain ⟨-, rp9, rc9, rfl, -⟩ := id hrt9.rdr
          have HF9 := first_any S2 B2 v9 hs wc hat9
          rw [HL9.out.hl.head, HL9.out.hl.isB] at HF9
          simp only [iv] at HF9
          have HRF9 := fun (W1 : World) (hg : G wc W1) => rfirst_any T R _ L W1 (hrt9.g hg) (by omega)
          simp only [iv] at HRF9
          have HLE9 : hs.length = L.length := HL9.out.hl.len
          have HITM9 := fun (W1 : World) (hg : G wc W1) => items_any S2 B2 v9 hs W1 (hat9.g hg) (by omega)
          rw [HL9.out.all] at HITM9
          have HLN9 := fun (W1 : World) (hg : G wc W1) => len_any S2 B2 v9 hs W1 (hat9.g hg)
          rw [HLE9] at HLN9
          have cR9 := hrt9.box.cell
          have HSM9 := fun (W1 : World) (hg : G wc W1) (uu : Value) (hu : Rdr W1 2 uu L.length (icells L)) => same_any L uu _ W1 hu (hrt9.g hg).rdr (by omega)
          generalize (at' L 0).1 = y0 at HF9 HRF9
          generalize (at' L 0).2 = y1 at HF9 HRF9
          generalize isB L = yb at HF9 HRF9
          obtain ⟨ln, hln⟩ : ∃ ln, ln = L.length := ⟨_, rfl⟩
          have HSM9 := Lib.hid HSM9
          have HITM9 := Lib.hid HITM9
          have HLN9 := Lib.hid HLN9
          have HRF9 := Lib.hid HRF9
          have HF9 := Lib.hid HF9
          rw [← hln] at cR9 HLN9 HSM9 HITM9
          have HLNN := Lib.hid hln
          have hl9 : ln ≤ 500000 := by omega
          clear hln hat9 hrt9 HLE9 hlm9
          go_wp2_with fail
          refine HF9.out.mono ?_
          rintro e f1 ⟨rfl, hgf1⟩
          have hz1 := hgf1.size
          have hga2 : G f1 (f1.alloc (.cells #[.int .i64 y0, .int .i64 y1] 40)) := (G.refl f1).alloc _
          have j0 := cell_alloc_at f1 [.int .i64 y0, .int .i64 y1] 40 (0, 0) 0 (.int .i64 y0) rfl
          have j1 := cell_alloc_at f1 [.int .i64 y0, .int .i64 y1] 40 (0, 0) 1 (.int .i64 y1) rfl
          go_wp2_with fail
          refine (HRF9.out _ (hgf1.trans hga2)).mono ?_
          rintro e f3 ⟨rfl, hgf3⟩
          have hga4 : G f3 (f3.alloc (.cells #[.int .i64 y0, .int .i64 y1] 43)) := (G.refl f3).alloc _
          have l0 := cell_alloc_at f3 [.int .i64 y0, .int .i64 y1] 43 (0, 0) 0 (.int .i64 y0) rfl
          have l1 := cell_alloc_at f3 [.int .i64 y0, .int .i64 y1] 43 (0, 0) 1 (.int .i64 y1) rfl
          have hg94 := (hgf1.trans hga2).trans (hgf3.trans hga4)
          have j0 := (hgf3.trans hga4).cell j0
          have j1 := (hgf3.trans hga4).cell j1
          go_wp2_with fail
          refine (HITM9.out _ hg94).mono ?_
          rintro e f5 ⟨u5, rfl, hown5, hg5⟩
          obtain ⟨p5, c5, rfl⟩ := ownsRow_shape hown5
          have hg95 := hg94.trans hg5
          have j0 := hg5.cell j0
          have j1 := hg5.cell j1
          have l0 := hg5.cell l0
          have l1 := hg5.cell l1
          have cR5 := hg95.cell cR9
          have HOWN5 := Lib.hid hown5
          clear hown5
          go_upto_region 33 with fail
          refine region_hl (fun w' => G f5 w') 99 36 (by kernel_rfl) rfl ?_
          simp only [List.replicate_succ, List.replicate_zero]
          have hs0 : (fun w' => G f5 w') f5.drew := (G.refl f5).drew
          refine hl_take_np 0 (by kernel_rfl) (by kernel_rfl) rfl (by kernel_rfl) hs0 (v := ?_) ?_ ?_
          rotate_left
          · (rintro x hx; have k0 := hx.cell j0; have k1 := hx.cell j1; have k2 := hx.cell l0; have k3 := hx.cell l1; have k4 := hx.cell cR5; clear hx; go_simp; try rfl)
          simp only [Act.put, List.setIfInBounds_toArray, List.set_cons_zero, List.set_cons_succ]
          refine hl_take_np 1 (by kernel_rfl) (by kernel_rfl) rfl (by kernel_rfl) hs0 (v := ?_) ?_ ?_
          rotate_left
          · (rintro x hx; have k0 := hx.cell j0; have k1 := hx.cell j1; have k2 := hx.cell l0; have k3 := hx.cell l1; have k4 := hx.cell cR5; clear hx; go_simp; try rfl)
          simp only [Act.put, List.setIfInBounds_toArray, List.set_cons_zero, List.set_cons_succ]
          refine hl_take_np 2 (by kernel_rfl) (by kernel_rfl) rfl (by kernel_rfl) hs0 (v := ?_) ?_ ?_
          rotate_left
          · (rintro x hx; have k0 := hx.cell j0; have k1 := hx.cell j1; have k2 := hx.cell l0; have k3 := hx.cell l1; have k4 := hx.cell cR5; clear hx; go_simp; try rfl)
          simp only [Act.put, List.setIfInBounds_toArray, List.set_cons_zero, List.set_cons_succ]
          refine hl_take_np 3 (by kernel_rfl) (by kernel_rfl) rfl (by kernel_rfl) hs0 (v := ?_) ?_ ?_
          rotate_left
          · (rintro x hx; have k0 := hx.cell j0; have k1 := hx.cell j1; have k2 := hx.cell l0; have k3 := hx.cell l1; have k4 := hx.cell cR5; clear hx; go_simp; try rfl)
          simp only [Act.put, List.setIfInBounds_toArray, List.set_cons_zero, List.set_cons_succ]
          refine hl_take_np 4 (by kernel_rfl) (by kernel_rfl) rfl (by kernel_rfl) hs0 (v := ?_) ?_ ?_
          rotate_left
          · (rintro x hx; have k0 := hx.cell j0; have k1 := hx.cell j1; have k2 := hx.cell l0; have k3 := hx.cell l1; have k4 := hx.cell cR5; clear hx; go_simp; try rfl)
          simp only [Act.put, List.setIfInBounds_toArray, List.set_cons_zero, List.set_cons_succ]
          refine hl_take_np 5 (by kernel_rfl) (by kernel_rfl) rfl (by kernel_rfl) hs0 (v := ?_) ?_ ?_
          rotate_left
          · (rintro x hx; have k0 := hx.cell j0; have k1 := hx.cell j1; have k2 := hx.cell l0; have k3 := hx.cell l1; have k4 := hx.cell cR5; clear hx; go_simp; try rfl)
          simp only [Act.put, List.setIfInBounds_toArray, List.set_cons_zero, List.set_cons_succ]
          refine hl_take_np 6 (by kernel_rfl) (by kernel_rfl) rfl (by kernel_rfl) hs0 (v := ?_) ?_ ?_
          rotate_left
          · (rintro x hx; have k0 := hx.cell j0; have k1 := hx.cell j1; have k2 := hx.cell l0; have k3 := hx.cell l1; have k4 := hx.cell cR5; clear hx; go_simp; try rfl)
          simp only [Act.put, List.setIfInBounds_toArray, List.set_cons_zero, List.set_cons_succ]
          refine hl_take_np 7 (by kernel_rfl) (by kernel_rfl) rfl (by kernel_rfl) hs0 (v := ?_) ?_ ?_
          rotate_left
          · (rintro x hx; have k0 := hx.cell j0; have k1 := hx.cell j1; have k2 := hx.cell l0; have k3 := hx.cell l1; have k4 := hx.cell cR5; clear hx; go_simp; try rfl)
          simp only [Act.put, List.setIfInBounds_toArray, List.set_cons_zero, List.set_cons_succ]
          refine hl_take_np 8 (by kernel_rfl) (by kernel_rfl) rfl (by kernel_rfl) hs0 (v := ?_) ?_ ?_
          rotate_left
          · (rintro x hx; have k0 := hx.cell j0; have k1 := hx.cell j1; have k2 := hx.cell l0; have k3 := hx.cell l1; have k4 := hx.cell cR5; clear hx; go_simp; try rfl)
          simp only [Act.put, List.setIfInBounds_toArray, List.set_cons_zero, List.set_cons_succ]
          refine hl_take_np 9 (by kernel_rfl) (by kernel_rfl) rfl (by kernel_rfl) hs0 (v := ?_) ?_ ?_
          rotate_left
          · (rintro x hx; have k0 := hx.cell j0; have k1 := hx.cell j1; have k2 := hx.cell l0; have k3 := hx.cell l1; have k4 := hx.cell cR5; clear hx; go_simp; try rfl)
          simp only [Act.put, List.setIfInBounds_toArray, List.set_cons_zero, List.set_cons_succ]
          refine hl_take_np 10 (by kernel_rfl) (by kernel_rfl) rfl (by kernel_rfl) hs0 (v := ?_) ?_ ?_
          rotate_left
          · (rintro x hx; have k0 := hx.cell j0; have k1 := hx.cell j1; have k2 := hx.cell l0; have k3 := hx.cell l1; have k4 := hx.cell cR5; clear hx; go_simp; try rfl)
          simp only [Act.put, List.setIfInBounds_toArray, List.set_cons_zero, List.set_cons_succ]
          refine hl_take_np 11 (by kernel_rfl) (by kernel_rfl) rfl (by kernel_rfl) hs0 (v := ?_) ?_ ?_
          rotate_left
          · (rintro x hx; have k0 := hx.cell j0; have k1 := hx.cell j1; have k2 := hx.cell l0; have k3 := hx.cell l1; have k4 := hx.cell cR5; clear hx; go_simp; try rfl)
          simp only [Act.put, List.setIfInBounds_toArray, List.set_cons_zero, List.set_cons_succ]
          refine hl_take_np 12 (by kernel_rfl) (by kernel_rfl) rfl (by kernel_rfl) hs0 (v := ?_) ?_ ?_
          rotate_left
          · (rintro x hx; have k0 := hx.cell j0; have k1 := hx.cell j1; have k2 := hx.cell l0; have k3 := hx.cell l1; have k4 := hx.cell cR5; clear hx; go_simp; try rfl)
          simp only [Act.put, List.setIfInBounds_toArray, List.set_cons_zero, List.set_cons_succ]
          refine hl_take_np 13 (by kernel_rfl) (by kernel_rfl) rfl (by kernel_rfl) hs0 (v := ?_) ?_ ?_
          rotate_left
          · (rintro x hx; have k0 := hx.cell j0; have k1 := hx.cell j1; have k2 := hx.cell l0; have k3 := hx.cell l1; have k4 := hx.cell cR5; clear hx; go_simp; try rfl)
          simp only [Act.put, List.setIfInBounds_toArray, List.set_cons_zero, List.set_cons_succ]
          refine hl_take_np 14 (by kernel_rfl) (by kernel_rfl) rfl (by kernel_rfl) hs0 (v := ?_) ?_ ?_
          rotate_left
          · (rintro x hx; have k0 := hx.cell j0; have k1 := hx.cell j1; have k2 := hx.cell l0; have k3 := hx.cell l1; have k4 := hx.cell cR5; clear hx; go_simp; try rfl)
          simp only [Act.put, List.setIfInBounds_toArray, List.set_cons_zero, List.set_cons_succ]
          refine hl_take_np 15 (by kernel_rfl) (by kernel_rfl) rfl (by kernel_rfl) hs0 (v := ?_) ?_ ?_
          rotate_left
          · (rintro x hx; have k0 := hx.cell j0; have k1 := hx.cell j1; have k2 := hx.cell l0; have k3 := hx.cell l1; have k4 := hx.cell cR5; clear hx; go_simp; try rfl)
          simp only [Act.put, List.setIfInBounds_toArray, List.set_cons_zero, List.set_cons_succ]
          refine hl_take_np 16 (by kernel_rfl) (by kernel_rfl) rfl (by kernel_rfl) hs0 (v := ?_) ?_ ?_
          rotate_left
          · (rintro x hx; have k0 := hx.cell j0; have k1 := hx.cell j1; have k2 := hx.cell l0; have k3 := hx.cell l1; have k4 := hx.cell cR5; clear hx; go_simp; try rfl)
          simp only [Act.put, List.setIfInBounds_toArray, List.set_cons_zero, List.set_cons_succ]
          refine hl_take_np 17 (by kernel_rfl) (by kernel_rfl) rfl (by kernel_rfl) hs0 (v := ?_) ?_ ?_
          rotate_left
          · (rintro x hx; have k0 := hx.cell j0; have k1 := hx.cell j1; have k2 := hx.cell l0; have k3 := hx.cell l1; have k4 := hx.cell cR5; clear hx; go_simp; try rfl)
          simp only [Act.put, List.setIfInBounds_toArray, List.set_cons_zero, List.set_cons_succ]
          refine hl_take_np 18 (by kernel_rfl) (by kernel_rfl) rfl (by kernel_rfl) hs0 (v := ?_) ?_ ?_
          rotate_left
          · (rintro x hx; have k0 := hx.cell j0; have k1 := hx.cell j1; have k2 := hx.cell l0; have k3 := hx.cell l1; have k4 := hx.cell cR5; clear hx; go_simp; try rfl)
          simp only [Act.put, List.setIfInBounds_toArray, List.set_cons_zero, List.set_cons_succ]
          refine hl_take_np 20 (by kernel_rfl) (by kernel_rfl) rfl (by kernel_rfl) hs0 (v := ?_) ?_ ?_
          rotate_left
          · (rintro x hx; have k0 := hx.cell j0; have k1 := hx.cell j1; have k2 := hx.cell l0; have k3 := hx.cell l1; have k4 := hx.cell cR5; clear hx; go_simp; try rfl)
          simp only [Act.put, List.setIfInBounds_toArray, List.set_cons_zero, List.set_cons_succ]
          refine hl_take_np 21 (by kernel_rfl) (by kernel_rfl) rfl (by kernel_rfl) hs0 (v := ?_) ?_ ?_
          rotate_left
          · (rintro x hx; have k0 := hx.cell j0; have k1 := hx.cell j1; have k2 := hx.cell l0; have k3 := hx.cell l1; have k4 := hx.cell cR5; clear hx; go_simp; try rfl)
          simp only [Act.put, List.setIfInBounds_toArray, List.set_cons_zero, List.set_cons_succ]
          refine hl_take_np 22 (by kernel_rfl) (by kernel_rfl) rfl (by kernel_rfl) hs0 (v := ?_) ?_ ?_
          rotate_left
          · (rintro x hx; have k0 := hx.cell j0; have k1 := hx.cell j1; have k2 := hx.cell l0; have k3 := hx.cell l1; have k4 := hx.cell cR5; clear hx; go_simp; try rfl)
          simp only [Act.put, List.setIfInBounds_toArray, List.set_cons_zero, List.set_cons_succ]
          refine hl_take_np 23 (by kernel_rfl) (by kernel_rfl) rfl (by kernel_rfl) hs0 (v := ?_) ?_ ?_
          rotate_left
          · (rintro x hx; have k0 := hx.cell j0; have k1 := hx.cell j1; have k2 := hx.cell l0; have k3 := hx.cell l1; have k4 := hx.cell cR5; clear hx; go_simp; try rfl)
          simp only [Act.put, List.setIfInBounds_toArray, List.set_cons_zero, List.set_cons_succ]
          refine hl_take_np 24 (by kernel_rfl) (by kernel_rfl) rfl (by kernel_rfl) hs0 (v := ?_) ?_ ?_
          rotate_left
          · (rintro x hx; have k0 := hx.cell j0; have k1 := hx.cell j1; have k2 := hx.cell l0; have k3 := hx.cell l1; have k4 := hx.cell cR5; clear hx; go_simp; try rfl)
          simp only [Act.put, List.setIfInBounds_toArray, List.set_cons_zero, List.set_cons_succ]
          refine hl_stepW 19 (by kernel_rfl) rfl (by kernel_rfl) ?_
          intro K hK
          go_simp
          refine (HLN9.out _ (hg95.trans hs0)).mono ?_
          rintro e f6 ⟨rfl, rfl⟩
          refine hK _ _ (fun _ => hs0) ?_
          clear hK
          simp only [Act.put, List.setIfInBounds_toArray, List.set_cons_zero, List.set_cons_succ]
          refine hl_take_np 25 (by kernel_rfl) (by kernel_rfl) rfl (by kernel_rfl) hs0 (v := ?_) ?_ ?_
          rotate_left
          · (rintro x hx; have k0 := hx.cell j0; have k1 := hx.cell j1; have k2 := hx.cell l0; have k3 := hx.cell l1; have k4 := hx.cell cR5; clear hx; go_simp; try rfl)
          simp only [Act.put, List.setIfInBounds_toArray, List.set_cons_zero, List.set_cons_succ]
          refine hl_take_np 26 (by kernel_rfl) (by kernel_rfl) rfl (by kernel_rfl) hs0 (v := ?_) ?_ ?_
          rotate_left
          · (rintro x hx; have k0 := hx.cell j0; have k1 := hx.cell j1; have k2 := hx.cell l0; have k3 := hx.cell l1; have k4 := hx.cell cR5; clear hx; go_simp; try rfl)
          simp only [Act.put, List.setIfInBounds_toArray, List.set_cons_zero, List.set_cons_succ]
          refine hl_take_np 27 (by kernel_rfl) (by kernel_rfl) rfl (by kernel_rfl) hs0 (v := ?_) ?_ ?_
          rotate_left
          · (rintro x hx; have k0 := hx.cell j0; have k1 := hx.cell j1; have k2 := hx.cell l0; have k3 := hx.cell l1; have k4 := hx.cell cR5; clear hx; go_simp; try rfl)
          simp only [Act.put, List.setIfInBounds_toArray, List.set_cons_zero, List.set_cons_succ]
          refine hl_take_np 28 (by kernel_rfl) (by kernel_rfl) rfl (by kernel_rfl) hs0 (v := ?_) ?_ ?_
          rotate_left
          · (rintro x hx; have k0 := hx.cell j0; have k1 := hx.cell j1; have k2 := hx.cell l0; have k3 := hx.cell l1; have k4 := hx.cell cR5; clear hx; go_simp; try rfl)
          simp only [Act.put, List.setIfInBounds_toArray, List.set_cons_zero, List.set_cons_succ]
          refine hl_take_np 29 (by kernel_rfl) (by kernel_rfl) rfl (by kernel_rfl) hs0 (v := ?_) ?_ ?_
          rotate_left
          · (rintro x hx; have k0 := hx.cell j0; have k1 := hx.cell j1; have k2 := hx.cell l0; have k3 := hx.cell l1; have k4 := hx.cell cR5; clear hx; go_simp; try rfl)
          simp only [Act.put, List.setIfInBounds_toArray, List.set_cons_zero, List.set_cons_succ]
          refine hl_take_np 30 (by kernel_rfl) (by kernel_rfl) rfl (by kernel_rfl) hs0 (v := ?_) ?_ ?_
          rotate_left
          · (rintro x hx; have k0 := hx.cell j0; have k1 := hx.cell j1; have k2 := hx.cell l0; have k3 := hx.cell l1; have k4 := hx.cell cR5; clear hx; go_simp; try rfl)
          simp only [Act.put, List.setIfInBounds_toArray, List.set_cons_zero, List.set_cons_succ]
          refine hl_take_np 31 (by kernel_rfl) (by kernel_rfl) rfl (by kernel_rfl) hs0 (v := ?_) ?_ ?_
          rotate_left
          · (rintro x hx; have k0 := hx.cell j0; have k1 := hx.cell j1; have k2 := hx.cell l0; have k3 := hx.cell l1; have k4 := hx.cell cR5; clear hx; go_simp; try rfl)
          simp only [Act.put, List.setIfInBounds_toArray, List.set_cons_zero, List.set_cons_succ]
          refine hl_take_np 32 (by kernel_rfl) (by kernel_rfl) rfl (by kernel_rfl) hs0 (v := ?_) ?_ ?_
          rotate_left
          · (rintro x hx; have k0 := hx.cell j0; have k1 := hx.cell j1; have k2 := hx.cell l0; have k3 := hx.cell l1; have k4 := hx.cell cR5; clear hx; go_simp; try rfl)
          simp only [Act.put, List.setIfInBounds_toArray, List.set_cons_zero, List.set_cons_succ]
          refine hl_stepW 33 (by kernel_rfl) rfl (by kernel_rfl) ?_
          intro K hK
          go_simp
          refine (HSM9.out _ (hg95.trans hs0) _ (rdr_of_owns (hs0.ownsRow HOWN5.out))).mono ?_
          rintro e f6 ⟨rfl, hg6⟩
          have hs1 := hs0.trans hg6
          refine hK _ _ (fun _ => hs1) ?_
          clear hK
          simp only [Act.put, List.setIfInBounds_toArray, List.set_cons_zero, List.set_cons_succ]
          refine hl_take_np 34 (by kernel_rfl) (by kernel_rfl) rfl (by kernel_rfl) hs1 (v := ?_) ?_ ?_
          rotate_left
          · (rintro x hx; have k0 := hx.cell j0; have k1 := hx.cell j1; have k2 := hx.cell l0; have k3 := hx.cell l1; have k4 := hx.cell cR5; clear hx; go_simp; try rfl)
          simp only [Act.put, List.setIfInBounds_toArray, List.set_cons_zero, List.set_cons_succ]
          refine hl_take_np 35 (by kernel_rfl) (by kernel_rfl) rfl (by kernel_rfl) hs1 (v := ?_) ?_ ?_
          rotate_left
          · (rintro x hx; have k0 := hx.cell j0; have k1 := hx.cell j1; have k2 := hx.cell l0; have k3 := hx.cell l1; have k4 := hx.cell cR5; clear hx; go_simp; try rfl)
          simp only [Act.put, List.setIfInBounds_toArray, List.set_cons_zero, List.set_cons_succ]
          refine hl_done (by kernel_rfl) ?_ _
          refine NoPanic.normal ?_
          have hg96 := hg95.trans hs1
          have hown6 := hs1.ownsRow HOWN5.out
          have hsz9 := (hg94).size
          have HI97 := Lib.hid (HI9.out.go hg96)
          have hwz := HI9.out.g.size
          have HOV9 := Lib.hid (over_any _ L _ f6 (by rw [← HLNN.out]; exact hown6) (by rw [← HLNN.out]; omega))
          clear j0 j1 l0 l1 cR5 hs0
          go_wp2_with fail
          refine HOV9.out.mono ?_
          rintro e f7 ⟨⟨u7, rfl⟩, hf7⟩
          have HI98 := Lib.hid (over_fr HI97.out hown6 (Nat.le_trans hwz hsz9) (fun q e => ⟨fun h => by have := HI9.out.ltS q h; have := (hown6.lt q e).1; omega, fun h => by have := HI9.out.ltT q h; have := (hown6.lt q e).1; omega⟩) hf7)
          go_wp2_with fail
          go_roundw
          case rel => exact ⟨k + 1, B2, S2, T, hs, L, by omega, by go_num, rfl, HI98, HL9⟩
          case measure => simp [intOf]; omega
      · have hdd : decide (k < m) = false := by simpa using hlt
        have hgw := HI.out.g
        go_wp2_with fail
        refine (awake_any _).mono ?_
        rintro e w7 ⟨rfl, hg7⟩
        go_wp2_with fail
        go_ret
        exact ⟨rfl, hgw.trans hg7⟩
  · clear HSZ hrs
    go_wp2_with fail
    refine (awake_any _).mono ?_
    rintro e w2 ⟨rfl, hg⟩
    go_wp2_with fail
    go_ret
    exact ⟨rfl, hg⟩
end Go.Proofs.Ythdeehpnlcpbnaa
