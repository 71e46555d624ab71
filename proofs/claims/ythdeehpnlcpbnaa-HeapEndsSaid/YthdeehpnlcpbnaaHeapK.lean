/- the document's heap: items are put -/
import Derived.Test.YthdeehpnlcpbnaaHeapJ
namespace Go.Proofs.Ythdeehpnlcpbnaa
set_option linter.unusedVariables false
set_option linter.unusedSimpArgs false
open Go.RowKit Go.Shelf
attribute [local go_sem] Oper.semAt_some

/-- new blocks of a call -/
theorem rdr_drop {W : World} {p : Option Addr} {m c j : Nat} {ks : List Item} (h : Rdr W 2 (.slice p m c) m (icells ks)) (hc : m ≤ c) (hj : j ≤ m) :
    Rdr W 2 (.slice (if c = j then p else Option.map (fun x => x.add (j * 2)) p) (m - j) (c - j)) (m - j) (icells (ks.drop j)) := by
  have hl := h.1
  rw [icells_len] at hl
  refine ⟨by rw [icells_len, List.length_drop]; omega, _, _, rfl, fun h0 => ?_⟩
  obtain ⟨b, o, rfl, hcell⟩ := h.one (by omega)
  refine ⟨b, o + j * 2, by rw [if_neg (by omega)]; simp [addr_add], fun i u hu => ?_⟩
  have e : icells ks = icells (ks.take j) ++ icells (ks.drop j) := by rw [← icells_app, List.take_append_drop]
  have := hcell (j * 2 + i) u (by
    rw [e, List.getElem?_append_right (by rw [icells_len, List.length_take]; omega), icells_len, List.length_take]
    rw [show j * 2 + i - min j ks.length * 2 = i by omega]
    exact hu)
  rwa [← Nat.add_assoc] at this
theorem rdr_take {W : World} {p : Option Addr} {m c j : Nat} {ks : List Item} (h : Rdr W 2 (.slice p m c) m (icells ks)) (hj : j ≤ m) : Rdr W 2 (.slice p j c) j (icells (ks.take j)) := by
  have hl := h.1
  rw [icells_len] at hl
  refine ⟨by rw [icells_len, List.length_take]; omega, _, _, rfl, fun h0 => ?_⟩
  obtain ⟨b, o, rfl, hcell⟩ := h.one (by omega)
  refine ⟨b, o, rfl, fun i u hu => hcell i u ?_⟩
  rw [← icells_take] at hu
  rw [List.getElem?_take] at hu
  split at hu
  · exact hu
  · cases hu
theorem own_fresh (W : World) (x0 x1 : Value) (t : TypeId) : (W.alloc (.cells #[x0, x1] t)).drew.ownsRow W.heap.size t 2 (.slice (some ⟨W.heap.size, 0, none⟩) 1 1) 1 [x0, x1] :=
  ⟨rfl, .inr ⟨W.heap.size, 1, #[x0, x1], rfl, Nat.le_refl _, alloc_new W _, Nat.le_refl _, by unfold maxLen; omega, rfl, rfl⟩⟩
theorem own_cap {W : World} {base n size c : Nat} {e : TypeId} {p : Option Addr} {xs : List Value} (h : W.ownsRow base e size (.slice p n c) n xs) : n ≤ c := by
  rcases h.2 with ⟨h, h0⟩ | ⟨g', cap, cur, he, hb, hh, hc, -⟩
  · omega
  · cases he; exact hc
def New (T : Nat → Prop) (w w' : World) : Nat → Prop := fun k => T k ∨ (w.heap.size ≤ k ∧ k < w'.heap.size)
theorem take_snoc_all {p : Item → Bool} {l : List Item} {j : Nat} {e : Item} (h : (l.take j).all p = true) (he : l[j]? = some e) (hp : p e = true) : (l.take (j + 1)).all p = true := by
  rw [List.take_add_one, he]; simp at h ⊢; exact ⟨h, hp⟩
set_option maxRecDepth 10000 in
set_option maxHeartbeats 2000000 in
theorem rpush_any (T : Nat → Prop) (R : Nat) (v : Value) (L xs : List Item) (u : Value) (w : World) (h : RefAt T w R v L) (hu : Rdr w 2 u xs.length (icells xs)) (hd : 0 < xs.length → ∀ g, u.ownBlock = some g → g ≠ R) (hn : L.length + xs.length ≤ 1000000) :
    Calls Try.prog 13 #[.pointer (some ⟨R, 0, none⟩), u] w fun e w' => (∃ u, e = .returned u) ∧ (∃ v', RefAt (New T w w') w' R v' (inss L xs)) ∧ Fr (fun k => k = R) w w' := by
  obtain ⟨hul, up, uc, rfl, -⟩ := id hu
  obtain ⟨n, hnn⟩ : ∃ n, n = xs.length := ⟨_, rfl⟩
  rw [← hnn] at hn hu hd ⊢
  have HN := Lib.hid hnn
  have H := Lib.hid h
  have HU := Lib.hid hu
  have HD := Lib.hid hd
  obtain ⟨i0, hi, hz0, hz1, hz2⟩ := info_parts infoRI
  have HONE := Lib.hid icells_one
  clear hnn h hul hu hd
  go_enter Try.func13, Try.ntmps13
  go_wp2_with fail
  go_loopw [4] (fun i wr => ∃ (k : Nat), k ≤ n ∧ i = .int .i64 k ∧ Hid (∃ v', RefAt (New T w wr) wr R v' (inss L (xs.take k))) ∧ Fr (fun k => k = R) w wr) (fun i _ => n - (intOf i).toNat)
  case atStart => exact ⟨0, by omega, rfl, Lib.hid ⟨v, ⟨H.out.box, H.out.rdr, H.out.cap, .inl H.out.inR, fun h0 g hg => ⟨.inl (H.out.inV h0 g hg).1, (H.out.inV h0 g hg).2⟩, fun k hk => hk.elim (H.out.lt k) (fun h => h.2)⟩⟩, Fr.refl _ _⟩
  case round =>
    obtain ⟨k, hk, rfl, HI, hf⟩ := hrel
    by_cases hlt : k < n
    · obtain ⟨x, hx⟩ : ∃ x, xs[k]? = some x := ⟨xs[k]'(by have := HN.out; omega), List.getElem?_eq_getElem _⟩
      obtain ⟨b, o, rfl, cx0, cx1⟩ := rdr_item (rdr_fr0 HU.out hf HD.out) hx
      obtain ⟨v', hat⟩ := HI.out
      have hkl : (inss L (xs.take k)).length = L.length + k := by rw [inss_len, List.length_take]; have := HN.out; omega
      have HPS := Lib.hid (inss_snoc (L := L) hx)
      generalize inss L (xs.take k) = ks at hat hkl HPS
      obtain ⟨-, p, c, rfl, -⟩ := id hat.rdr
      obtain ⟨m, hm⟩ : ∃ m, m = ks.length := ⟨_, rfl⟩
      have hmc := hat.cap _ _ _ rfl
      rw [← hm] at hat hmc
      have hm6 : m < 1000000 := by omega
      have HAT := Lib.hid hat
      have HM := Lib.hid hm
      have HRM : Hid (Rdr wr 2 (.slice p m c) m (icells ks)) := Lib.hid (by rw [hm]; have := hat.rdr; rwa [hm] at this)
      have cR := hat.box.cell
      have fR := hat.box.frozen
      obtain ⟨x0, x1⟩ := x
      simp only at cx0 cx1
      clear hx hat hm hkl
      go_wp2_with fail
      obtain ⟨wo, hwo⟩ : ∃ wo : World, wo = wr := ⟨_, rfl⟩
      rw [← hwo] at HI hf cx0 cx1 HAT HRM cR fR ⊢
      clear hwo
      go_loopw [5] (fun i wi => ∃ (j : Nat), j ≤ m ∧ i = .int .i64 j ∧ Hid ((ks.take j).all (bef (x0, x1)) = true) ∧ G wo wi) (fun i _ => m - (intOf i).toNat)
      case atStart => exact ⟨0, by omega, rfl, (rfl : (ks.take 0).all (bef (x0, x1)) = true), G.refl _⟩
      case round =>
        obtain ⟨j, hj, rfl, HA, hgi⟩ := hrel
        have cRi := hgi.cell cR
        have cx0i := hgi.cell cx0
        have cx1i := hgi.cell cx1
        have hkn : (k : Int) < (n : Int) := by omega
        have hk0 : (0 : Int) ≤ (k : Int) := by omega
        have hstop : (j < m ∧ ∃ e, ks[j]? = some e ∧ bef (x0, x1) e = true) ∨ (m ≤ j ∨ (j < m ∧ ∃ e, ks[j]? = some e ∧ bef (x0, x1) e = false)) := by
          by_cases hjm : j < m
          · obtain ⟨e, he⟩ : ∃ e, ks[j]? = some e := ⟨ks[j]'(by have := HM.out; omega), List.getElem?_eq_getElem _⟩
            cases hb : bef (x0, x1) e
            · exact .inr (.inr ⟨hjm, e, he, hb⟩)
            · exact .inl ⟨hjm, e, he, hb⟩
          · exact .inr (.inl (by omega))
        rcases hstop with ⟨hjm, e, he, hbe⟩ | hstop
        · obtain ⟨b', o', hp, ce0, ce1⟩ := rdr_item HRM.out he
          subst hp
          have ce0 := hgi.cell ce0
          have ce1 := hgi.cell ce1
          have HT2 := Lib.hid (take_snoc_all HA.out he hbe)
          have HB := Lib.hid hbe
          obtain ⟨e0, e1⟩ := e
          simp only at ce0 ce1
          have hjI : (j : Int) < (m : Int) := by omega
          clear he hbe
          go_upto_region 4 with fail
          refine region_hl (fun w' => G wr w') 99 22 (by kernel_rfl) rfl ?_
          simp only [List.replicate_succ, List.replicate_zero]
          have hs0 : (fun w' => G wr w') wr.drew := (G.refl wr).drew
          refine hl_take_np 0 (by kernel_rfl) (by kernel_rfl) rfl (by kernel_rfl) hs0 (v := ?_) ?_ ?_
          rotate_left
          · (rintro x hx; have k0 := hx.cell cRi; have k1 := hx.cell cx0i; have k2 := hx.cell cx1i; have k3 := hx.cell ce0; have k4 := hx.cell ce1; clear hx; go_simp; try rfl)
          simp only [Act.put, List.setIfInBounds_toArray, List.set_cons_zero, List.set_cons_succ]
          refine hl_take_np 1 (by kernel_rfl) (by kernel_rfl) rfl (by kernel_rfl) hs0 (v := ?_) ?_ ?_
          rotate_left
          · (rintro x hx; have k0 := hx.cell cRi; have k1 := hx.cell cx0i; have k2 := hx.cell cx1i; have k3 := hx.cell ce0; have k4 := hx.cell ce1; clear hx; go_simp; try rfl)
          simp only [Act.put, List.setIfInBounds_toArray, List.set_cons_zero, List.set_cons_succ]
          refine hl_take_np 2 (by kernel_rfl) (by kernel_rfl) rfl (by kernel_rfl) hs0 (v := ?_) ?_ ?_
          rotate_left
          · (rintro x hx; have k0 := hx.cell cRi; have k1 := hx.cell cx0i; have k2 := hx.cell cx1i; have k3 := hx.cell ce0; have k4 := hx.cell ce1; clear hx; go_simp; try rfl)
          simp only [Act.put, List.setIfInBounds_toArray, List.set_cons_zero, List.set_cons_succ]
          refine hl_take_np 3 (by kernel_rfl) (by kernel_rfl) rfl (by kernel_rfl) hs0 (v := ?_) ?_ ?_
          rotate_left
          · (rintro x hx; have k0 := hx.cell cRi; have k1 := hx.cell cx0i; have k2 := hx.cell cx1i; have k3 := hx.cell ce0; have k4 := hx.cell ce1; clear hx; go_simp; try rfl)
          simp only [Act.put, List.setIfInBounds_toArray, List.set_cons_zero, List.set_cons_succ]
          refine hl_take_np 4 (by kernel_rfl) (by kernel_rfl) rfl (by kernel_rfl) hs0 (v := ?_) ?_ ?_
          rotate_left
          · (rintro x hx; have k0 := hx.cell cRi; have k1 := hx.cell cx0i; have k2 := hx.cell cx1i; have k3 := hx.cell ce0; have k4 := hx.cell ce1; clear hx; go_simp; try rfl)
          simp only [Act.put, List.setIfInBounds_toArray, List.set_cons_zero, List.set_cons_succ]
          refine hl_take_np 5 (by kernel_rfl) (by kernel_rfl) rfl (by kernel_rfl) hs0 (v := ?_) ?_ ?_
          rotate_left
          · (rintro x hx; have k0 := hx.cell cRi; have k1 := hx.cell cx0i; have k2 := hx.cell cx1i; have k3 := hx.cell ce0; have k4 := hx.cell ce1; clear hx; go_simp; try rfl)
          simp only [Act.put, List.setIfInBounds_toArray, List.set_cons_zero, List.set_cons_succ]
          refine hl_take_np 6 (by kernel_rfl) (by kernel_rfl) rfl (by kernel_rfl) hs0 (v := ?_) ?_ ?_
          rotate_left
          · (rintro x hx; have k0 := hx.cell cRi; have k1 := hx.cell cx0i; have k2 := hx.cell cx1i; have k3 := hx.cell ce0; have k4 := hx.cell ce1; clear hx; go_simp; try rfl)
          simp only [Act.put, List.setIfInBounds_toArray, List.set_cons_zero, List.set_cons_succ]
          refine hl_take_np 7 (by kernel_rfl) (by kernel_rfl) rfl (by kernel_rfl) hs0 (v := ?_) ?_ ?_
          rotate_left
          · (rintro x hx; have k0 := hx.cell cRi; have k1 := hx.cell cx0i; have k2 := hx.cell cx1i; have k3 := hx.cell ce0; have k4 := hx.cell ce1; clear hx; go_simp; try rfl)
          simp only [Act.put, List.setIfInBounds_toArray, List.set_cons_zero, List.set_cons_succ]
          refine hl_take_np 8 (by kernel_rfl) (by kernel_rfl) rfl (by kernel_rfl) hs0 (v := ?_) ?_ ?_
          rotate_left
          · (rintro x hx; have k0 := hx.cell cRi; have k1 := hx.cell cx0i; have k2 := hx.cell cx1i; have k3 := hx.cell ce0; have k4 := hx.cell ce1; clear hx; go_simp; try rfl)
          simp only [Act.put, List.setIfInBounds_toArray, List.set_cons_zero, List.set_cons_succ]
          refine hl_take_np 9 (by kernel_rfl) (by kernel_rfl) rfl (by kernel_rfl) hs0 (v := ?_) ?_ ?_
          rotate_left
          · (rintro x hx; have k0 := hx.cell cRi; have k1 := hx.cell cx0i; have k2 := hx.cell cx1i; have k3 := hx.cell ce0; have k4 := hx.cell ce1; clear hx; go_simp; try rfl)
          simp only [Act.put, List.setIfInBounds_toArray, List.set_cons_zero, List.set_cons_succ]
          refine hl_take_np 10 (by kernel_rfl) (by kernel_rfl) rfl (by kernel_rfl) hs0 (v := ?_) ?_ ?_
          rotate_left
          · (rintro x hx; have k0 := hx.cell cRi; have k1 := hx.cell cx0i; have k2 := hx.cell cx1i; have k3 := hx.cell ce0; have k4 := hx.cell ce1; clear hx; go_simp; try rfl)
          simp only [Act.put, List.setIfInBounds_toArray, List.set_cons_zero, List.set_cons_succ]
          refine hl_take_np 11 (by kernel_rfl) (by kernel_rfl) rfl (by kernel_rfl) hs0 (v := ?_) ?_ ?_
          rotate_left
          · (rintro x hx; have k0 := hx.cell cRi; have k1 := hx.cell cx0i; have k2 := hx.cell cx1i; have k3 := hx.cell ce0; have k4 := hx.cell ce1; clear hx; go_simp; try rfl)
          simp only [Act.put, List.setIfInBounds_toArray, List.set_cons_zero, List.set_cons_succ]
          refine hl_take_np 12 (by kernel_rfl) (by kernel_rfl) rfl (by kernel_rfl) hs0 (v := ?_) ?_ ?_
          rotate_left
          · (rintro x hx; have k0 := hx.cell cRi; have k1 := hx.cell cx0i; have k2 := hx.cell cx1i; have k3 := hx.cell ce0; have k4 := hx.cell ce1; clear hx; go_simp; try rfl)
          simp only [Act.put, List.setIfInBounds_toArray, List.set_cons_zero, List.set_cons_succ]
          refine hl_take_np 13 (by kernel_rfl) (by kernel_rfl) rfl (by kernel_rfl) hs0 (v := ?_) ?_ ?_
          rotate_left
          · (rintro x hx; have k0 := hx.cell cRi; have k1 := hx.cell cx0i; have k2 := hx.cell cx1i; have k3 := hx.cell ce0; have k4 := hx.cell ce1; clear hx; go_simp; try rfl)
          simp only [Act.put, List.setIfInBounds_toArray, List.set_cons_zero, List.set_cons_succ]
          refine hl_take_np 14 (by kernel_rfl) (by kernel_rfl) rfl (by kernel_rfl) hs0 (v := ?_) ?_ ?_
          rotate_left
          · (rintro x hx; have k0 := hx.cell cRi; have k1 := hx.cell cx0i; have k2 := hx.cell cx1i; have k3 := hx.cell ce0; have k4 := hx.cell ce1; clear hx; go_simp; try rfl)
          simp only [Act.put, List.setIfInBounds_toArray, List.set_cons_zero, List.set_cons_succ]
          refine hl_take_np 15 (by kernel_rfl) (by kernel_rfl) rfl (by kernel_rfl) hs0 (v := ?_) ?_ ?_
          rotate_left
          · (rintro x hx; have k0 := hx.cell cRi; have k1 := hx.cell cx0i; have k2 := hx.cell cx1i; have k3 := hx.cell ce0; have k4 := hx.cell ce1; clear hx; go_simp; try rfl)
          simp only [Act.put, List.setIfInBounds_toArray, List.set_cons_zero, List.set_cons_succ]
          refine hl_take_np 16 (by kernel_rfl) (by kernel_rfl) rfl (by kernel_rfl) hs0 (v := ?_) ?_ ?_
          rotate_left
          · (rintro x hx; have k0 := hx.cell cRi; have k1 := hx.cell cx0i; have k2 := hx.cell cx1i; have k3 := hx.cell ce0; have k4 := hx.cell ce1; clear hx; go_simp; try rfl)
          simp only [Act.put, List.setIfInBounds_toArray, List.set_cons_zero, List.set_cons_succ]
          refine hl_take_np 17 (by kernel_rfl) (by kernel_rfl) rfl (by kernel_rfl) hs0 (v := ?_) ?_ ?_
          rotate_left
          · (rintro x hx; have k0 := hx.cell cRi; have k1 := hx.cell cx0i; have k2 := hx.cell cx1i; have k3 := hx.cell ce0; have k4 := hx.cell ce1; clear hx; go_simp; try rfl)
          simp only [Act.put, List.setIfInBounds_toArray, List.set_cons_zero, List.set_cons_succ]
          refine hl_take_np 18 (by kernel_rfl) (by kernel_rfl) rfl (by kernel_rfl) hs0 (v := ?_) ?_ ?_
          rotate_left
          · (rintro x hx; have k0 := hx.cell cRi; have k1 := hx.cell cx0i; have k2 := hx.cell cx1i; have k3 := hx.cell ce0; have k4 := hx.cell ce1; clear hx; go_simp; try rfl)
          simp only [Act.put, List.setIfInBounds_toArray, List.set_cons_zero, List.set_cons_succ]
          refine hl_stepW 19 (by kernel_rfl) rfl (by kernel_rfl) ?_
          intro K hK
          go_simp
          have hah := ahead_any (x0, x1) (e0, e1) wr.drew
          rw [show decide (icmp (x0, x1) (e0, e1) < 0) = !bef (x0, x1) (e0, e1) from by simp [bef], HB.out] at hah
          refine hah.mono ?_
          rintro ee w' ⟨rfl, hga⟩
          have hs1 : G wr w' := hs0.trans hga
          refine hK _ _ (fun _ => hs1) ?_
          clear hK hah
          simp only [Act.put, List.setIfInBounds_toArray, List.set_cons_zero, List.set_cons_succ]
          refine hl_take_np 20 (by kernel_rfl) (by kernel_rfl) rfl (by kernel_rfl) hs1 (v := ?_) ?_ ?_
          rotate_left
          · (rintro x hx; clear hx; go_simp; try rfl)
          simp only [Act.put, List.setIfInBounds_toArray, List.set_cons_zero, List.set_cons_succ]
          refine hl_take_np 21 (by kernel_rfl) (by kernel_rfl) rfl (by kernel_rfl) hs1 (v := ?_) ?_ ?_
          rotate_left
          · (rintro x hx; clear hx; go_simp; try rfl)
          simp only [Act.put, List.setIfInBounds_toArray, List.set_cons_zero, List.set_cons_succ]
          refine hl_done (by kernel_rfl) ?_ _
          refine NoPanic.normal ?_
          have hgn := hgi.trans hs1
          clear hs0 hs1 hga cRi cx0i cx1i ce0 ce1
          go_wp2_with fail
          go_roundw
          case rel => exact ⟨j + 1, by omega, by go_num, HT2, hgn⟩
          case measure => simp [intOf]; omega
        · have HINS : Hid (insL (x0, x1) ks = ks.take j ++ (x0, x1) :: ks.drop j) := Lib.hid (ins_at HA.out (hstop.imp (fun h => by have := HM.out; omega) (fun h => h.2)))
          rcases hstop with hjm | ⟨hjm, e, he, hbe⟩
          have hjd : decide (j < m) = false := by simp; omega
          have HDR := Lib.hid (rdr_drop HRM.out hmc hj)
          clear hjm
          go_upto_region 4 with fail
          refine region_hl (fun w' => G wr w') 99 22 (by kernel_rfl) rfl ?_
          simp only [List.replicate_succ, List.replicate_zero]
          have hs0 : (fun w' => G wr w') wr.drew := (G.refl wr).drew
          refine hl_take_np 0 (by kernel_rfl) (by kernel_rfl) rfl (by kernel_rfl) hs0 (v := ?_) ?_ ?_
          rotate_left
          · (rintro x hx; have k0 := hx.cell cRi; clear hx; go_simp; try rfl)
          simp only [Act.put, List.setIfInBounds_toArray, List.set_cons_zero, List.set_cons_succ]
          refine hl_take_np 1 (by kernel_rfl) (by kernel_rfl) rfl (by kernel_rfl) hs0 (v := ?_) ?_ ?_
          rotate_left
          · (rintro x hx; have k0 := hx.cell cRi; clear hx; go_simp; try rfl)
          simp only [Act.put, List.setIfInBounds_toArray, List.set_cons_zero, List.set_cons_succ]
          refine hl_take_np 2 (by kernel_rfl) (by kernel_rfl) rfl (by kernel_rfl) hs0 (v := ?_) ?_ ?_
          rotate_left
          · (rintro x hx; have k0 := hx.cell cRi; clear hx; go_simp; try rfl)
          simp only [Act.put, List.setIfInBounds_toArray, List.set_cons_zero, List.set_cons_succ]
          refine hl_take_np 3 (by kernel_rfl) (by kernel_rfl) rfl (by kernel_rfl) hs0 (v := ?_) ?_ ?_
          rotate_left
          · (rintro x hx; have k0 := hx.cell cRi; clear hx; go_simp; try rfl)
          simp only [Act.put, List.setIfInBounds_toArray, List.set_cons_zero, List.set_cons_succ]
          refine hl_take_np 4 (by kernel_rfl) (by kernel_rfl) rfl (by kernel_rfl) hs0 (v := ?_) ?_ ?_
          rotate_left
          · (rintro x hx; have k0 := hx.cell cRi; clear hx; go_simp; try rfl)
          simp only [Act.put, List.setIfInBounds_toArray, List.set_cons_zero, List.set_cons_succ]
          refine hl_take_np 5 (by kernel_rfl) (by kernel_rfl) rfl (by kernel_rfl) hs0 (v := ?_) ?_ ?_
          rotate_left
          · (rintro x hx; have k0 := hx.cell cRi; clear hx; go_simp; try rfl)
          simp only [Act.put, List.setIfInBounds_toArray, List.set_cons_zero, List.set_cons_succ]
          refine hl_take_np 6 (by kernel_rfl) (by kernel_rfl) rfl (by kernel_rfl) hs0 (v := ?_) ?_ ?_
          rotate_left
          · (rintro x hx; have k0 := hx.cell cRi; clear hx; go_simp; try rfl)
          simp only [Act.put, List.setIfInBounds_toArray, List.set_cons_zero, List.set_cons_succ]
          refine hl_take_np 7 (by kernel_rfl) (by kernel_rfl) rfl (by kernel_rfl) hs0 (v := ?_) ?_ ?_
          rotate_left
          · (rintro x hx; have k0 := hx.cell cRi; clear hx; go_simp; try rfl)
          simp only [Act.put, List.setIfInBounds_toArray, List.set_cons_zero, List.set_cons_succ]
          refine hl_skip_np 8 (by kernel_rfl) (by kernel_rfl) rfl (by kernel_rfl) hs0 ?_
          simp only [Act.put, List.setIfInBounds_toArray, List.set_cons_zero, List.set_cons_succ]
          refine hl_skip_np 9 (by kernel_rfl) (by kernel_rfl) rfl (by kernel_rfl) hs0 ?_
          simp only [Act.put, List.setIfInBounds_toArray, List.set_cons_zero, List.set_cons_succ]
          refine hl_skip_np 10 (by kernel_rfl) (by kernel_rfl) rfl (by kernel_rfl) hs0 ?_
          simp only [Act.put, List.setIfInBounds_toArray, List.set_cons_zero, List.set_cons_succ]
          refine hl_skip_np 11 (by kernel_rfl) (by kernel_rfl) rfl (by kernel_rfl) hs0 ?_
          simp only [Act.put, List.setIfInBounds_toArray, List.set_cons_zero, List.set_cons_succ]
          refine hl_skip_np 12 (by kernel_rfl) (by kernel_rfl) rfl (by kernel_rfl) hs0 ?_
          simp only [Act.put, List.setIfInBounds_toArray, List.set_cons_zero, List.set_cons_succ]
          refine hl_skip_np 13 (by kernel_rfl) (by kernel_rfl) rfl (by kernel_rfl) hs0 ?_
          simp only [Act.put, List.setIfInBounds_toArray, List.set_cons_zero, List.set_cons_succ]
          refine hl_skip_np 14 (by kernel_rfl) (by kernel_rfl) rfl (by kernel_rfl) hs0 ?_
          simp only [Act.put, List.setIfInBounds_toArray, List.set_cons_zero, List.set_cons_succ]
          refine hl_skip_np 15 (by kernel_rfl) (by kernel_rfl) rfl (by kernel_rfl) hs0 ?_
          simp only [Act.put, List.setIfInBounds_toArray, List.set_cons_zero, List.set_cons_succ]
          refine hl_skip_np 16 (by kernel_rfl) (by kernel_rfl) rfl (by kernel_rfl) hs0 ?_
          simp only [Act.put, List.setIfInBounds_toArray, List.set_cons_zero, List.set_cons_succ]
          refine hl_skip_np 17 (by kernel_rfl) (by kernel_rfl) rfl (by kernel_rfl) hs0 ?_
          simp only [Act.put, List.setIfInBounds_toArray, List.set_cons_zero, List.set_cons_succ]
          refine hl_skip_np 18 (by kernel_rfl) (by kernel_rfl) rfl (by kernel_rfl) hs0 ?_
          simp only [Act.put, List.setIfInBounds_toArray, List.set_cons_zero, List.set_cons_succ]
          refine hl_skip_np 19 (by kernel_rfl) (by kernel_rfl) rfl (by kernel_rfl) hs0 ?_
          simp only [Act.put, List.setIfInBounds_toArray, List.set_cons_zero, List.set_cons_succ]
          refine hl_skip_np 20 (by kernel_rfl) (by kernel_rfl) rfl (by kernel_rfl) hs0 ?_
          simp only [Act.put, List.setIfInBounds_toArray, List.set_cons_zero, List.set_cons_succ]
          refine hl_take_np 21 (by kernel_rfl) (by kernel_rfl) rfl (by kernel_rfl) hs0 (v := ?_) ?_ ?_
          rotate_left
          · (rintro x hx; have k0 := hx.cell cRi; clear hx; go_simp; try rfl)
          simp only [Act.put, List.setIfInBounds_toArray, List.set_cons_zero, List.set_cons_succ]
          refine hl_done (by kernel_rfl) ?_ _
          refine NoPanic.normal ?_
          have hgn := hgi.trans hs0
          clear hs0 cRi cx0i cx1i
          generalize wr.drew = wz at hgn ⊢
          rotate_left
          obtain ⟨b', o', hp, ce0, ce1⟩ := rdr_item HRM.out he
          subst hp
          have ce0 := hgi.cell ce0
          have ce1 := hgi.cell ce1
          have HB := Lib.hid hbe
          obtain ⟨e0, e1⟩ := e
          simp only at ce0 ce1
          have hjI : (j : Int) < (m : Int) := by omega
          have HDR : Hid (Rdr wo 2 (.slice (if c = j then some ⟨b', o', none⟩ else some ⟨b', o' + j * 2, none⟩) (m - j) (c - j)) (m - j) (icells (ks.drop j))) := Lib.hid (by have := rdr_drop HRM.out hmc hj; simpa [addr_add] using this)
          clear he hbe
          go_upto_region 4 with fail
          refine region_hl (fun w' => G wr w') 99 22 (by kernel_rfl) rfl ?_
          simp only [List.replicate_succ, List.replicate_zero]
          have hs0 : (fun w' => G wr w') wr.drew := (G.refl wr).drew
          refine hl_take_np 0 (by kernel_rfl) (by kernel_rfl) rfl (by kernel_rfl) hs0 (v := ?_) ?_ ?_
          rotate_left
          · (rintro x hx; have k0 := hx.cell cRi; have k1 := hx.cell cx0i; have k2 := hx.cell cx1i; have k3 := hx.cell ce0; have k4 := hx.cell ce1; clear hx; go_simp; try rfl)
          simp only [Act.put, List.setIfInBounds_toArray, List.set_cons_zero, List.set_cons_succ]
          refine hl_take_np 1 (by kernel_rfl) (by kernel_rfl) rfl (by kernel_rfl) hs0 (v := ?_) ?_ ?_
          rotate_left
          · (rintro x hx; have k0 := hx.cell cRi; have k1 := hx.cell cx0i; have k2 := hx.cell cx1i; have k3 := hx.cell ce0; have k4 := hx.cell ce1; clear hx; go_simp; try rfl)
          simp only [Act.put, List.setIfInBounds_toArray, List.set_cons_zero, List.set_cons_succ]
          refine hl_take_np 2 (by kernel_rfl) (by kernel_rfl) rfl (by kernel_rfl) hs0 (v := ?_) ?_ ?_
          rotate_left
          · (rintro x hx; have k0 := hx.cell cRi; have k1 := hx.cell cx0i; have k2 := hx.cell cx1i; have k3 := hx.cell ce0; have k4 := hx.cell ce1; clear hx; go_simp; try rfl)
          simp only [Act.put, List.setIfInBounds_toArray, List.set_cons_zero, List.set_cons_succ]
          refine hl_take_np 3 (by kernel_rfl) (by kernel_rfl) rfl (by kernel_rfl) hs0 (v := ?_) ?_ ?_
          rotate_left
          · (rintro x hx; have k0 := hx.cell cRi; have k1 := hx.cell cx0i; have k2 := hx.cell cx1i; have k3 := hx.cell ce0; have k4 := hx.cell ce1; clear hx; go_simp; try rfl)
          simp only [Act.put, List.setIfInBounds_toArray, List.set_cons_zero, List.set_cons_succ]
          refine hl_take_np 4 (by kernel_rfl) (by kernel_rfl) rfl (by kernel_rfl) hs0 (v := ?_) ?_ ?_
          rotate_left
          · (rintro x hx; have k0 := hx.cell cRi; have k1 := hx.cell cx0i; have k2 := hx.cell cx1i; have k3 := hx.cell ce0; have k4 := hx.cell ce1; clear hx; go_simp; try rfl)
          simp only [Act.put, List.setIfInBounds_toArray, List.set_cons_zero, List.set_cons_succ]
          refine hl_take_np 5 (by kernel_rfl) (by kernel_rfl) rfl (by kernel_rfl) hs0 (v := ?_) ?_ ?_
          rotate_left
          · (rintro x hx; have k0 := hx.cell cRi; have k1 := hx.cell cx0i; have k2 := hx.cell cx1i; have k3 := hx.cell ce0; have k4 := hx.cell ce1; clear hx; go_simp; try rfl)
          simp only [Act.put, List.setIfInBounds_toArray, List.set_cons_zero, List.set_cons_succ]
          refine hl_take_np 6 (by kernel_rfl) (by kernel_rfl) rfl (by kernel_rfl) hs0 (v := ?_) ?_ ?_
          rotate_left
          · (rintro x hx; have k0 := hx.cell cRi; have k1 := hx.cell cx0i; have k2 := hx.cell cx1i; have k3 := hx.cell ce0; have k4 := hx.cell ce1; clear hx; go_simp; try rfl)
          simp only [Act.put, List.setIfInBounds_toArray, List.set_cons_zero, List.set_cons_succ]
          refine hl_take_np 7 (by kernel_rfl) (by kernel_rfl) rfl (by kernel_rfl) hs0 (v := ?_) ?_ ?_
          rotate_left
          · (rintro x hx; have k0 := hx.cell cRi; have k1 := hx.cell cx0i; have k2 := hx.cell cx1i; have k3 := hx.cell ce0; have k4 := hx.cell ce1; clear hx; go_simp; try rfl)
          simp only [Act.put, List.setIfInBounds_toArray, List.set_cons_zero, List.set_cons_succ]
          refine hl_take_np 8 (by kernel_rfl) (by kernel_rfl) rfl (by kernel_rfl) hs0 (v := ?_) ?_ ?_
          rotate_left
          · (rintro x hx; have k0 := hx.cell cRi; have k1 := hx.cell cx0i; have k2 := hx.cell cx1i; have k3 := hx.cell ce0; have k4 := hx.cell ce1; clear hx; go_simp; try rfl)
          simp only [Act.put, List.setIfInBounds_toArray, List.set_cons_zero, List.set_cons_succ]
          refine hl_take_np 9 (by kernel_rfl) (by kernel_rfl) rfl (by kernel_rfl) hs0 (v := ?_) ?_ ?_
          rotate_left
          · (rintro x hx; have k0 := hx.cell cRi; have k1 := hx.cell cx0i; have k2 := hx.cell cx1i; have k3 := hx.cell ce0; have k4 := hx.cell ce1; clear hx; go_simp; try rfl)
          simp only [Act.put, List.setIfInBounds_toArray, List.set_cons_zero, List.set_cons_succ]
          refine hl_take_np 10 (by kernel_rfl) (by kernel_rfl) rfl (by kernel_rfl) hs0 (v := ?_) ?_ ?_
          rotate_left
          · (rintro x hx; have k0 := hx.cell cRi; have k1 := hx.cell cx0i; have k2 := hx.cell cx1i; have k3 := hx.cell ce0; have k4 := hx.cell ce1; clear hx; go_simp; try rfl)
          simp only [Act.put, List.setIfInBounds_toArray, List.set_cons_zero, List.set_cons_succ]
          refine hl_take_np 11 (by kernel_rfl) (by kernel_rfl) rfl (by kernel_rfl) hs0 (v := ?_) ?_ ?_
          rotate_left
          · (rintro x hx; have k0 := hx.cell cRi; have k1 := hx.cell cx0i; have k2 := hx.cell cx1i; have k3 := hx.cell ce0; have k4 := hx.cell ce1; clear hx; go_simp; try rfl)
          simp only [Act.put, List.setIfInBounds_toArray, List.set_cons_zero, List.set_cons_succ]
          refine hl_take_np 12 (by kernel_rfl) (by kernel_rfl) rfl (by kernel_rfl) hs0 (v := ?_) ?_ ?_
          rotate_left
          · (rintro x hx; have k0 := hx.cell cRi; have k1 := hx.cell cx0i; have k2 := hx.cell cx1i; have k3 := hx.cell ce0; have k4 := hx.cell ce1; clear hx; go_simp; try rfl)
          simp only [Act.put, List.setIfInBounds_toArray, List.set_cons_zero, List.set_cons_succ]
          refine hl_take_np 13 (by kernel_rfl) (by kernel_rfl) rfl (by kernel_rfl) hs0 (v := ?_) ?_ ?_
          rotate_left
          · (rintro x hx; have k0 := hx.cell cRi; have k1 := hx.cell cx0i; have k2 := hx.cell cx1i; have k3 := hx.cell ce0; have k4 := hx.cell ce1; clear hx; go_simp; try rfl)
          simp only [Act.put, List.setIfInBounds_toArray, List.set_cons_zero, List.set_cons_succ]
          refine hl_take_np 14 (by kernel_rfl) (by kernel_rfl) rfl (by kernel_rfl) hs0 (v := ?_) ?_ ?_
          rotate_left
          · (rintro x hx; have k0 := hx.cell cRi; have k1 := hx.cell cx0i; have k2 := hx.cell cx1i; have k3 := hx.cell ce0; have k4 := hx.cell ce1; clear hx; go_simp; try rfl)
          simp only [Act.put, List.setIfInBounds_toArray, List.set_cons_zero, List.set_cons_succ]
          refine hl_take_np 15 (by kernel_rfl) (by kernel_rfl) rfl (by kernel_rfl) hs0 (v := ?_) ?_ ?_
          rotate_left
          · (rintro x hx; have k0 := hx.cell cRi; have k1 := hx.cell cx0i; have k2 := hx.cell cx1i; have k3 := hx.cell ce0; have k4 := hx.cell ce1; clear hx; go_simp; try rfl)
          simp only [Act.put, List.setIfInBounds_toArray, List.set_cons_zero, List.set_cons_succ]
          refine hl_take_np 16 (by kernel_rfl) (by kernel_rfl) rfl (by kernel_rfl) hs0 (v := ?_) ?_ ?_
          rotate_left
          · (rintro x hx; have k0 := hx.cell cRi; have k1 := hx.cell cx0i; have k2 := hx.cell cx1i; have k3 := hx.cell ce0; have k4 := hx.cell ce1; clear hx; go_simp; try rfl)
          simp only [Act.put, List.setIfInBounds_toArray, List.set_cons_zero, List.set_cons_succ]
          refine hl_take_np 17 (by kernel_rfl) (by kernel_rfl) rfl (by kernel_rfl) hs0 (v := ?_) ?_ ?_
          rotate_left
          · (rintro x hx; have k0 := hx.cell cRi; have k1 := hx.cell cx0i; have k2 := hx.cell cx1i; have k3 := hx.cell ce0; have k4 := hx.cell ce1; clear hx; go_simp; try rfl)
          simp only [Act.put, List.setIfInBounds_toArray, List.set_cons_zero, List.set_cons_succ]
          refine hl_take_np 18 (by kernel_rfl) (by kernel_rfl) rfl (by kernel_rfl) hs0 (v := ?_) ?_ ?_
          rotate_left
          · (rintro x hx; have k0 := hx.cell cRi; have k1 := hx.cell cx0i; have k2 := hx.cell cx1i; have k3 := hx.cell ce0; have k4 := hx.cell ce1; clear hx; go_simp; try rfl)
          simp only [Act.put, List.setIfInBounds_toArray, List.set_cons_zero, List.set_cons_succ]
          refine hl_stepW 19 (by kernel_rfl) rfl (by kernel_rfl) ?_
          intro K hK
          go_simp
          have hah := ahead_any (x0, x1) (e0, e1) wr.drew
          rw [show decide (icmp (x0, x1) (e0, e1) < 0) = !bef (x0, x1) (e0, e1) from by simp [bef], HB.out] at hah
          refine hah.mono ?_
          rintro ee wz ⟨rfl, hga⟩
          have hs1 : G wr wz := hs0.trans hga
          refine hK _ _ (fun _ => hs1) ?_
          clear hK hah
          simp only [Act.put, List.setIfInBounds_toArray, List.set_cons_zero, List.set_cons_succ]
          refine hl_take_np 20 (by kernel_rfl) (by kernel_rfl) rfl (by kernel_rfl) hs1 (v := ?_) ?_ ?_
          rotate_left
          · (rintro x hx; clear hx; go_simp; try rfl)
          simp only [Act.put, List.setIfInBounds_toArray, List.set_cons_zero, List.set_cons_succ]
          refine hl_take_np 21 (by kernel_rfl) (by kernel_rfl) rfl (by kernel_rfl) hs1 (v := ?_) ?_ ?_
          rotate_left
          · (rintro x hx; clear hx; go_simp; try rfl)
          simp only [Act.put, List.setIfInBounds_toArray, List.set_cons_zero, List.set_cons_succ]
          refine hl_done (by kernel_rfl) ?_ _
          refine NoPanic.normal ?_
          have hgn := hgi.trans hs1
          clear hs0 hs1 hga cRi cx0i cx1i ce0 ce1
          rotate_left
          all_goals
            have cRz := hgn.cell cR
            have cx0z := hgn.cell cx0
            have cx1z := hgn.cell cx1
            have hjmI : (j : Int) ≤ (m : Int) := by omega
            have hj0 : (0 : Int) ≤ (j : Int) := by omega
            have hmcI : (m : Int) ≤ (c : Int) := by omega
            go_upto_region 6 with fail
            refine region_hl (fun w' => G wz w') 99 13 (by kernel_rfl) rfl ?_
            simp only [List.replicate_succ, List.replicate_zero]
            have hs0 : (fun w' => G wz w') wz.drew := (G.refl wz).drew
            refine hl_take_np 0 (by kernel_rfl) (by kernel_rfl) rfl (by kernel_rfl) hs0 (v := ?_) ?_ ?_
            rotate_left
            · (rintro x hx; have k0 := hx.cell cRz; have k1 := hx.cell cx0z; have k2 := hx.cell cx1z; clear hx; go_simp; try rfl)
            simp only [Act.put, List.setIfInBounds_toArray, List.set_cons_zero, List.set_cons_succ]
            refine hl_take_np 1 (by kernel_rfl) (by kernel_rfl) rfl (by kernel_rfl) hs0 (v := ?_) ?_ ?_
            rotate_left
            · (rintro x hx; have k0 := hx.cell cRz; have k1 := hx.cell cx0z; have k2 := hx.cell cx1z; clear hx; go_simp; try rfl)
            simp only [Act.put, List.setIfInBounds_toArray, List.set_cons_zero, List.set_cons_succ]
            refine hl_take_np 2 (by kernel_rfl) (by kernel_rfl) rfl (by kernel_rfl) hs0 (v := ?_) ?_ ?_
            rotate_left
            · (rintro x hx; have k0 := hx.cell cRz; have k1 := hx.cell cx0z; have k2 := hx.cell cx1z; clear hx; go_simp; try rfl)
            simp only [Act.put, List.setIfInBounds_toArray, List.set_cons_zero, List.set_cons_succ]
            refine hl_take_np 3 (by kernel_rfl) (by kernel_rfl) rfl (by kernel_rfl) hs0 (v := ?_) ?_ ?_
            rotate_left
            · (rintro x hx; have k0 := hx.cell cRz; have k1 := hx.cell cx0z; have k2 := hx.cell cx1z; clear hx; go_simp; try rfl)
            simp only [Act.put, List.setIfInBounds_toArray, List.set_cons_zero, List.set_cons_succ]
            refine hl_take_np 5 (by kernel_rfl) (by kernel_rfl) rfl (by kernel_rfl) hs0 (v := ?_) ?_ ?_
            rotate_left
            · (rintro x hx; have k0 := hx.cell cRz; have k1 := hx.cell cx0z; have k2 := hx.cell cx1z; clear hx; go_simp; try rfl)
            simp only [Act.put, List.setIfInBounds_toArray, List.set_cons_zero, List.set_cons_succ]
            refine hl_take_np 6 (by kernel_rfl) (by kernel_rfl) rfl (by kernel_rfl) hs0 (v := ?_) ?_ ?_
            rotate_left
            · (rintro x hx; have k0 := hx.cell cRz; have k1 := hx.cell cx0z; have k2 := hx.cell cx1z; clear hx; go_simp; try rfl)
            simp only [Act.put, List.setIfInBounds_toArray, List.set_cons_zero, List.set_cons_succ]
            refine hl_take_np 7 (by kernel_rfl) (by kernel_rfl) rfl (by kernel_rfl) hs0 (v := ?_) ?_ ?_
            rotate_left
            · (rintro x hx; have k0 := hx.cell cRz; have k1 := hx.cell cx0z; have k2 := hx.cell cx1z; clear hx; go_simp; try rfl)
            simp only [Act.put, List.setIfInBounds_toArray, List.set_cons_zero, List.set_cons_succ]
            refine hl_take_np 8 (by kernel_rfl) (by kernel_rfl) rfl (by kernel_rfl) hs0 (v := ?_) ?_ ?_
            rotate_left
            · (rintro x hx; have k0 := hx.cell cRz; have k1 := hx.cell cx0z; have k2 := hx.cell cx1z; clear hx; go_simp; try rfl)
            simp only [Act.put, List.setIfInBounds_toArray, List.set_cons_zero, List.set_cons_succ]
            refine hl_take_np 9 (by kernel_rfl) (by kernel_rfl) rfl (by kernel_rfl) hs0 (v := ?_) ?_ ?_
            rotate_left
            · (rintro x hx; have k0 := hx.cell cRz; have k1 := hx.cell cx0z; have k2 := hx.cell cx1z; clear hx; go_simp; try rfl)
            simp only [Act.put, List.setIfInBounds_toArray, List.set_cons_zero, List.set_cons_succ]
            refine hl_take_np 10 (by kernel_rfl) (by kernel_rfl) rfl (by kernel_rfl) hs0 (v := ?_) ?_ ?_
            rotate_left
            · (rintro x hx; have k0 := hx.cell cRz; have k1 := hx.cell cx0z; have k2 := hx.cell cx1z; clear hx; go_simp; try rfl)
            simp only [Act.put, List.setIfInBounds_toArray, List.set_cons_zero, List.set_cons_succ]
            first
            | generalize (if c = j then p else Option.map (fun x => x.add (j * 2)) p) = pt at HDR ⊢
            | generalize (if c = j then some (⟨b', o', none⟩ : Addr) else some ⟨b', o' + j * 2, none⟩) = pt at HDR ⊢
            refine hl_step 4 (by kernel_rfl) rfl ?_
            go_wp2_with fail
            show _ ∧ _
            have hA : G wz (wz.alloc (.cells #[.int .i64 x0, .int .i64 x1] 43)).drew := ((G.refl wz).alloc _).drew
            refine ⟨(by first | exact hA | exact fun _ => hA), ?_⟩
            refine hl_step 11 (by kernel_rfl) rfl ?_
            refine wpList_appendR _ rfl _ _ 30 rfl wz.heap.size 43 i0 (.agg #[.int .i64 0, .int .i64 0]) 2 16 Try.underlying30 hi hz0 hz1 hz2 rfl (by decide) (.slice (some ⟨wz.heap.size, 0, none⟩) 1 1) 1 [.int .i64 x0, .int .i64 x1] rfl (own_fresh wz _ _ _) (.slice pt (m - j) (c - j)) (m - j) (icells (ks.drop j)) rfl (HDR.out.g (hgn.trans hA)) (HONE.out _) (by unfold maxLen; omega) (by omega) (by simp) ?_
            intro p1 c1 w1 hown1 hgrow1 hat1
            have hg1 : G wz w1 := hA.grown hgrow1 (fun k h => by have := Option.some.inj h; simp at this; omega)
            have HO1 := Lib.hid hown1
            clear hown1 hgrow1 hat1 hA hs0
            show _ ∧ _
            refine ⟨(by first | exact hg1 | exact fun _ => hg1), ?_⟩
            refine hl_take_np 12 (by kernel_rfl) (by kernel_rfl) rfl (by kernel_rfl) hg1 (v := ?_) ?_ ?_
            rotate_left
            · (rintro x hx; clear hx; go_simp; try rfl)
            simp only [Act.put, List.setIfInBounds_toArray, List.set_cons_zero, List.set_cons_succ]
            refine hl_done (by kernel_rfl) ?_ _
            refine NoPanic.normal ?_
            have cR1 := hg1.cell cRz
            have hgo1 := hgn.trans hg1
            have fR1 := (hgo1.frozen (p := ⟨R, 0, none⟩) (HAT.out.lt R HAT.out.inR)).trans fR
            have HTK := Lib.hid (rdr_take HRM.out hj)
            have hRl := HAT.out.lt R HAT.out.inR
            have hzo := hgo1.size
            have hRl1 : R < w1.heap.size := by omega
            have hzw := hf.size
            clear cRz cx0z cx1z hgn hg1
            go_wp2_with (at_builtin; first | (refine wpList_appendR _ rfl _ _ 30 rfl w1.heap.size 43 i0 (.agg #[.int .i64 0, .int .i64 0]) 2 16 Try.underlying30 hi hz0 hz1 hz2 rfl (by decide) _ 0 [] rfl (World.ownsRow_made w1 #[] 0 (Nat.le_refl _) (Nat.zero_le _) rfl) _ j (icells (ks.take j)) rfl (HTK.out.g (hgo1.alloc _)) (HONE.out _) (by unfold maxLen; omega) (by omega) (by simp) ?_; intro p2 c2 w2 hown2 hgrow2 hat2; simp only [Nat.zero_add, List.nil_append] at hown2 hat2 ⊢; have hg12 : G w1 w2 := ((G.refl w1).alloc _).grown hgrow2 (fun k h => by have := Option.some.inj h; simp at this; omega); have HO2 := Lib.hid hown2; have cR2 := hg12.cell cR1; have fR2 := (hg12.frozen (p := ⟨R, 0, none⟩) hRl1).trans fR1; have hz12 := hg12.size; clear hown2 hgrow2 hat2 cR1 fR1) | (refine wpList_appendR _ rfl _ _ 30 rfl w1.heap.size 43 i0 (.agg #[.int .i64 0, .int .i64 0]) 2 16 Try.underlying30 hi hz0 hz1 hz2 rfl (by decide) (.slice p2 j c2) j (icells (ks.take j)) rfl HO2.out (.slice p1 (1 + (m - j)) c1) (1 + (m - j)) ([.int .i64 x0, .int .i64 x1] ++ icells (ks.drop j)) rfl ((rdr_of_owns HO1.out).g hg12) (HONE.out ((x0, x1) :: ks.drop j)) (by unfold maxLen; omega) (by omega) (by omega) ?_; intro p3 c3 w3 hown3 hgrow3 hat3; have hfa3 := grownBy_fr hgrow3; have hnR : ¬ (Value.slice p2 j c2).ownBlock = some R := (fun e => by have := (HO2.out.lt R e).1; omega); have hb3 := hfa3.boxed ((hgo1.trans hg12).boxed HAT.out.box) hnR; have cR3 := hb3.cell; have fR3 := hb3.frozen; have HB3 := Lib.hid hb3; have HO3 := Lib.hid (And.intro hown3 (And.intro hfa3 hat3)); clear hown3 hfa3 hat3 hgrow3 hb3 cR2 fR2))
            have hlen3 : j + (1 + (m - j)) = (insL (x0, x1) ks).length := by rw [insL_len, ← HM.out]; omega
            have hxs3 : icells (ks.take j) ++ ([.int .i64 x0, .int .i64 x1] ++ icells (ks.drop j)) = icells (insL (x0, x1) ks) := by rw [HINS.out, icells_app]; rfl
            have hz3 := HO3.out.2.1.size
            have hfo3 : Fr (fun k => w1.heap.size ≤ k) wo w3 := ((hgo1.trans hg12).fr _).trans (HO3.out.2.1.mono (fun q e => (HO2.out.lt q e).1)) (fun _ _ h => h)
            have hst : Fr (fun q => q = R) w3 (w3.setCell ⟨R, 0, none⟩ (.slice p3 (j + (1 + (m - j))) c3)) := (Fr.refl (fun q => q = R) w3).setCell (p := ⟨R, 0, none⟩) (.inl rfl) _
            have hlt3 : ∀ g, (Value.slice p3 (j + (1 + (m - j))) c3).ownBlock = some g → w1.heap.size ≤ g ∧ g < w3.heap.size := fun g hg => HO3.out.1.lt g hg
            have hsz4 : (w3.setCell ⟨R, 0, none⟩ (.slice p3 (j + (1 + (m - j))) c3)).heap.size = w3.heap.size := by simp
            have HI7 : Hid (∃ v', RefAt (New T w (w3.setCell ⟨R, 0, none⟩ (.slice p3 (j + (1 + (m - j))) c3))) (w3.setCell ⟨R, 0, none⟩ (.slice p3 (j + (1 + (m - j))) c3)) R v' (inss L (xs.take (k + 1)))) := Lib.hid ⟨.slice p3 (j + (1 + (m - j))) c3, by
              rw [HPS.out]
              refine ⟨HB3.out.set _, ?_, by rintro p n c h; cases h; exact own_cap HO3.out.1, ?_, fun _ g hg => ⟨.inr ⟨by have := hlt3 g hg; omega, by have := hlt3 g hg; omega⟩, by have := hlt3 g hg; omega⟩, fun q hq => ?_⟩
              · rw [← hlen3, ← hxs3]
                exact (rdr_of_owns HO3.out.1).fr hst (fun g hg e => by have := hlt3 g hg; omega)
              · rcases HAT.out.inR with h | h
                · exact .inl h
                · exact .inr ⟨h.1, by omega⟩
              · rcases hq with h | h
                · have := HAT.out.lt q (.inl h); omega
                · exact h.2⟩
            have hfin : Fr (fun k => k = R) w (w3.setCell ⟨R, 0, none⟩ (.slice p3 (j + (1 + (m - j))) c3)) := (hf.trans hfo3 (fun i hi h => by omega)).trans hst (fun _ _ h => h)
            clear hlen3 hxs3 hfo3 hst hlt3 hsz4 cR3 fR3 hf hgo1 hg12 cx0 cx1 cR fR
            go_roundw
            case rel => exact ⟨k + 1, by omega, by go_num, HI7, hfin⟩
            case measure => simp [intOf]; omega
    · have HI6 : Hid (∃ v', RefAt (New T w wr) wr R v' (inss L xs)) := Lib.hid (by
        have h1 := HI.out
        rwa [List.take_of_length_le (by have := HN.out; omega)] at h1)
      go_wp2_with fail
      go_returns
      exact ⟨⟨_, rfl⟩, HI6.out, hf⟩
end Go.Proofs.Ythdeehpnlcpbnaa
