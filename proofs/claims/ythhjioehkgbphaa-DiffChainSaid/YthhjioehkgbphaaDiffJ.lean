/- what is new, what is gone: the walk -/
import Derived.Test.YthhjioehkgbphaaDiffI
import Derived.Test.YthhjioehkgbphaaRound
import Derived.Test.YthhjioehkgbphaaSeq2
namespace Go.Proofs.Ythhjioehkgbphaa
set_option linter.unusedVariables false
set_option linter.unusedSimpArgs false
open Go.RowKit Go.Shelf
attribute [local go_sem] Oper.semAt_some

theorem OwnRV.mono {base base' : Nat} {W : World} {v : Value} {ls : List (List Val)} (h : OwnRV base W v ls) (hb : base' ≤ base) : OwnRV base' W v ls := by
  obtain ⟨rv, h1, h2⟩ := h
  refine ⟨rv, ownsRow_mono h1 hb, fun i l hl => ?_⟩
  obtain ⟨x, a, b, c⟩ := h2 i l hl
  exact ⟨x, a, b, fun g hg => ⟨Nat.le_trans hb (c g hg).1, (c g hg).2⟩⟩
/-- bounds of rows that came in -/
structure RowsOK (ls : List (List Val)) : Prop where
  text : ∀ l ∈ ls, ∀ x ∈ l, x.2.2.size ≤ maxLen
  wide : ∀ l ∈ ls, l.length ≤ 1000000
  many : ls.length ≤ 1000000
theorem of_yes (xs ys : List (List Val)) (va vb : Value) (w : World) (ha : RdrRV w va xs) (hb : RdrRV w vb ys) (hca : ∀ p n c, va = .slice p n c → n ≤ c) (hcb : ∀ p n c, vb = .slice p n c → n ≤ c)
    (hx : RowsOK xs) (hy : RowsOK ys) (hrx : rgt none xs = true) (hry : rgt none ys = true) :
    Calls Try.prog 11 #[va, vb] w fun e w' => ∃ p m, e = .returned (.tuple #[p, m, .int .i64 0]) ∧ OwnRV w.heap.size w' p (pls (mrgR xs ys)) ∧ OwnRV w.heap.size w' m (mns (mrgR xs ys)) ∧ G w w' := by
  obtain ⟨p, c, rfl⟩ := ha.shape
  obtain ⟨q, d, rfl⟩ := hb.shape
  have hcx := hca _ _ _ rfl
  have hcy := hcb _ _ _ rfl
  obtain ⟨es, hes, hesm⟩ := rdrE_of ha hcx
  obtain ⟨fs, hfs, hfsm⟩ := rdrE_of hb hcy
  have hel : es.length = xs.length := by rw [← hesm]; simp
  have hfl : fs.length = ys.length := by rw [← hfsm]; simp
  have HR1 := Lib.hid (dright_any xs (.slice p xs.length c) ((w.alloc (.cells #[.slice none 0 0] 25)).alloc (.cells #[.slice none 0 0] 25)) (ha.g (((G.refl w).alloc _).alloc _)) hx.text (fun l hl => Nat.le_trans (hx.wide l hl) (by omega)) (Nat.le_trans hx.many (by omega)))
  rw [hrx] at HR1
  have HYR := Lib.hid (And.intro hb hry)
  have HX := Lib.hid hx
  have HY := Lib.hid hy
  have HES := Lib.hid hes
  have HFS := Lib.hid hfs
  have HEM := Lib.hid hesm
  have HFM := Lib.hid hfsm
  have HEL := Lib.hid hel
  have HFL := Lib.hid hfl
  clear ha hb hca hcb hx hy hrx hry hes hfs hesm hfsm hel hfl hcx hcy
  obtain ⟨i0, hi, hz0, hz1, hz2⟩ := info_parts infoS
  refine calls_of_marks Try.func11 rfl ?_
  simp only [Try.ntmps11, List.size_toArray, List.length_cons, List.length_nil, Nat.reduceAdd, Nat.reduceSub, Array.replicate_succ, Array.replicate_zero, List.push_toArray, List.append_toArray, List.nil_append, List.cons_append]
  go_wp2_with fail
  refine HR1.out.mono ?_
  rintro e w1 ⟨rfl, hg1⟩
  have hgw1 : G w w1 := (((G.refl w).alloc _).alloc _).trans hg1
  have HR2 := Lib.hid (dright_any ys (.slice q ys.length d) w1 (HYR.out.1.g hgw1) HY.out.text (fun l hl => Nat.le_trans (HY.out.wide l hl) (by omega)) (Nat.le_trans HY.out.many (by omega)))
  rw [HYR.out.2] at HR2
  go_wp2_with fail
  refine HR2.out.mono ?_
  rintro e w2 ⟨rfl, hg2⟩
  have hgw2 := hgw1.trans hg2
  have hg12 := hg1.trans hg2
  go_wp2_with fail
  refine (beside_any _ _ p q xs.length c ys.length d rfl rfl w2).mono ?_
  rintro e w3 ⟨rfl, hw3⟩
  have hg23 : G w2 w3 := by rw [hw3]; exact ((G.refl w2).alloc _).alloc _
  have hba : Boxed w3 w2.heap.size 25 (.slice p xs.length c) := by rw [hw3]; exact boxed_at w2 [_, _] 0 _ _ rfl
  have hbb : Boxed w3 (w2.heap.size + 1) 25 (.slice q ys.length d) := by rw [hw3]; exact boxed_at w2 [_, _] 1 _ _ rfl
  have hsz3 : w3.heap.size = w2.heap.size + 2 := by rw [hw3]; exact allocs_size w2 [_, _]
  clear hw3
  have hgw3 := hgw2.trans hg23
  have h03 : G ((w.alloc (.cells #[.slice none 0 0] 25)).alloc (.cells #[.slice none 0 0] 25)) w3 := hg12.trans hg23
  have hp0 : Boxed w3 w.heap.size 25 (.slice none 0 0) := h03.boxed (boxed_at w [_, _] 0 _ _ rfl)
  have hm0 : Boxed w3 (w.heap.size + 1) 25 (.slice none 0 0) := h03.boxed (boxed_at w [_, _] 1 _ _ rfl)
  have hs2 : w.heap.size + 2 ≤ w2.heap.size := by have := hg12.size; simpa using this
  have hs3 : w.heap.size + 2 ≤ w3.heap.size := by omega
  clear HR1 HR2 hg1 hg2 hgw1 hg12 hgw2 hg23 h03
  go_wp2_with fail
  have hmem : ∀ (pre : List (El × Bool × Bool)) (x : El × Bool × Bool), pre ++ [x] <+: mrg es fs → RdrV w x.1.1 x.1.2 ∧ x.1.2.length ≤ 1000000 ∧ pre.length < 2000000 := fun pre x hp => by
    have hm : x ∈ mrg es fs := hp.subset (by simp)
    have hl : (pre ++ [x]).length ≤ (mrg es fs).length := hp.length_le
    have hl2 : (mrg es fs).length ≤ es.length + fs.length := by
      have h1 := mrgR_len (es.map (·.2)) (fs.map (·.2))
      rw [← mrg_rows] at h1
      simpa using h1
    have h3 := HEL.out; have h4 := HFL.out; have h5 := HX.out.many; have h6 := HY.out.many
    simp at hl
    rcases mrg_mem es fs x hm with h | h
    · exact ⟨HES.out.2 _ h, HX.out.wide _ (by rw [← HEM.out]; exact List.mem_map_of_mem h), by omega⟩
    · exact ⟨HFS.out.2 _ h, HY.out.wide _ (by rw [← HFM.out]; exact List.mem_map_of_mem h), by omega⟩
  have HMEM := Lib.hid hmem
  clear hmem
  have hseq := beside_seq w w.heap.size w2.heap.size (w2.heap.size + 1) es fs (.slice p xs.length c) (.slice q ys.length d) w3 hgw3 HES.out HFS.out hba hbb (by omega) (by have := HEL.out; have := HX.out.many; omega) (by have := HFL.out; have := HY.out.many; omega)
    (fun e he => Nat.le_trans (HX.out.wide _ (by rw [← HEM.out]; exact List.mem_map_of_mem he)) (by omega)) (fun e he => Nat.le_trans (HY.out.wide _ (by rw [← HFM.out]; exact List.mem_map_of_mem he)) (by omega)) (by omega) (by omega) (noX_of HES.out (Nat.le_refl _)) (noX_of HFS.out (Nat.le_refl _))
  refine range_wp2 (gf := 32) (lb := #[.pointer (some ⟨w2.heap.size, 0, none⟩), .pointer (some ⟨w2.heap.size + 1, 0, none⟩)]) (fun x W => W.alloc (.cells #[.bool x.2.1, .bool x.2.2] 55)) (fun x W => (G.refl W).alloc _) rfl (enters_of Try.func32 (by kernel_rfl) rfl)
    hseq (G.refl _) (by rintro k (rfl | rfl) <;> omega) (fun k hk => by omega) (fun _ => rfl)
    (fun pre Fo W => ∃ vp vm, ∃ Sp Sm : Nat → Prop, FBox w.heap.size 25 vp Fo W ∧ FBox (w.heap.size + 1) 25 vm Fo W ∧ FOwn (w.heap.size + 2) Sp vp (pls (rws pre)) Fo W ∧ FOwn (w.heap.size + 2) Sm vm (mns (rws pre)) Fo W ∧ (∀ k, Sp k → ¬ Sm k) ∧ FG w Fo W)
    (fun c pre Fo W => False)
    (fun p => Stable.ex fun vp => Stable.ex fun vm => Stable.ex fun Sp => Stable.ex fun Sm => (Stable.box _ _ _).and ((Stable.box _ _ _).and ((Stable.own _ _ _ _).and ((Stable.own _ _ _ _).and ((Stable.pure _).and (Stable.fg _))))))
    (fun c p => Stable.pure _)
    ⟨.slice none 0 0, .slice none 0 0, fun _ => False, fun _ => False, ⟨by rintro (h | h) <;> omega, hp0⟩, ⟨by rintro (h | h) <;> omega, hm0⟩, ⟨fun _ h => h.elim, OwnS.nil _ _⟩, ⟨fun _ h => h.elim, OwnS.nil _ _⟩, fun _ h => h.elim, by rintro k (rfl | rfl) <;> omega, hgw3⟩
    ?a1 ?assign ?body ?done ?stop
  case assign =>
    intro l x W K hK
    simp only [encE]
    gi_wp2
    exact hK
  case body =>
    rintro l pre x Fo W0 W hW0 hW3 hfrW hfo hfl hsz2 ⟨vp, vm, Sp, Sm, ⟨hn0, hx0⟩, ⟨hn1, hx1⟩, ⟨hnp, hop⟩, ⟨hnm, hom⟩, hdis, hfg, hg⟩ hpre
    obtain ⟨⟨rv, rl⟩, f, s⟩ := x
    obtain ⟨hrd, hrl, hpl⟩ := HMEM.out _ _ hpre
    simp only at hrd hrl hpl hfrW
    have hne8 : ¬ W0.heap.size = w3.heap.size + 1 := by omega
    have k0 : W.cell? ⟨W0.heap.size, 0, none⟩ = some (.bool f) := hfrW.cell (p := ⟨W0.heap.size, 0, none⟩) hne8 (cell_alloc_at W0 [.bool f, .bool s] 55 (0, 0) 0 _ rfl)
    have k1 : W.cell? ⟨W0.heap.size, 1, none⟩ = some (.bool s) := hfrW.cell (p := ⟨W0.heap.size, 1, none⟩) hne8 (cell_alloc_at W0 [.bool f, .bool s] 55 (0, 0) 1 _ rfl)
    have hc0 := hx0.cell
    have hf0 := hx0.frozen
    have hc1 := hx1.cell
    have hf1 := hx1.frozen
    have HP := Lib.hid hop
    have HM := Lib.hid hom
    have HD := Lib.hid hdis
    have HRD := Lib.hid hrd
    have HNP := Lib.hid hnp
    have HNM := Lib.hid hnm
    clear hop hom hdis hrd hnp hnm hfrW hseq
    cases f
    · cases s
      · gi_wp2
        exact ⟨Fr.refl _ _, vp, vm, Sp, Sm, ⟨hn0, hx0⟩, ⟨hn1, hx1⟩, ⟨HNP.out, by rw [pls_snoc]; simpa using HP.out⟩, ⟨HNM.out, by rw [mns_snoc]; simpa using HM.out⟩, HD.out, hfg, hg⟩
      · gi_wp2
        obtain ⟨hSb, prv, pown, pv, prow⟩ := HP.out
        obtain ⟨pp, pc, hpv⟩ := ownsRow_shape pown
        subst hpv
        have hplen : (pls (rws pre)).length ≤ 2000000 := by have := pls_len (rws pre); rw [rws_len] at this; omega
        have HSB := Lib.hid hSb
        have HOW := Lib.hid pown
        have HPV := Lib.hid pv
        have HPR := Lib.hid prow
        clear hSb pown pv prow
        refine region_hl_round (fun w' => w'.cell? ⟨w.heap.size, 0, none⟩ = some (.slice pp (pls (rws pre)).length pc)) 5 6 (by kernel_rfl) rfl (by kernel_rfl) ?_
        simp only [List.replicate_succ, List.replicate_zero]
        have hs0 : (fun w' : World => w'.cell? ⟨w.heap.size, 0, none⟩ = some (.slice pp (pls (rws pre)).length pc)) W.drew := (G.drew (G.refl W)).cell hc0
        refine hl_take_np 0 (by kernel_rfl) (by kernel_rfl) rfl (by kernel_rfl) hs0 (v := ?_) ?_ ?_
        rotate_left
        · (rintro x hx; go_simp; try rfl)
        simp only [Act.put, List.setIfInBounds_toArray, List.set_cons_zero, List.set_cons_succ]
        refine hl_take_np 1 (by kernel_rfl) (by kernel_rfl) rfl (by kernel_rfl) hs0 (v := ?_) ?_ ?_
        rotate_left
        · (rintro x hx; go_simp; try rfl)
        simp only [Act.put, List.setIfInBounds_toArray, List.set_cons_zero, List.set_cons_succ]
        refine hl_stepW 2 (by kernel_rfl) rfl (by kernel_rfl) ?_
        intro K hK
        go_simp
        have hgd : G W W.drew := G.drew (G.refl W)
        refine (clone_any rl rv _ (HRD.out.g (hg.trans hgd)) (by omega)).mono ?_
        rintro e wc ⟨u, rfl, hu, huo, hgc⟩
        have hgc1 := hgd.trans hgc
        refine hK _ _ (fun _ => hgc1.cell hc0) ?_
        clear hK
        obtain ⟨up, uc, rfl⟩ := hu.shape
        have HU := Lib.hid hu
        have HUO := Lib.hid huo
        clear hu huo hgc
        simp only [Act.put, List.setIfInBounds_toArray, List.set_cons_zero, List.set_cons_succ]
        refine hl_step 3 (by kernel_rfl) rfl ?_
        go_wp2_with fail
        show _ ∧ _
        have hA : G W (wc.alloc (.cells #[.slice up rl.length uc] 22)) := hgc1.alloc _
        refine ⟨(by first | exact hA.cell hc0 | exact fun _ => hA.cell hc0), ?_⟩
        refine hl_step 4 (by kernel_rfl) rfl ?_
        have hszc := hgc1.size
        refine wpList_append2 _ rfl _ _ 25 rfl (w.heap.size + 2) 22 i0 (.slice none 0 0) 1 24 Try.underlying25 hi hz0 hz1 hz2 rfl (by decide) (.slice pp (pls (rws pre)).length pc) (pls (rws pre)).length prv rfl ((hgc1.ownsRow HOW.out).alloc _) ⟨wc.heap.size, 0, none⟩ 1 1 [.slice up rl.length uc] rfl rfl (cell_one_new _ _ _) (by simp [Value.oneCell']) (by unfold maxLen; omega) (by omega) (by simp; omega) ?_
        intro v' wa hown hgrow hnil hat
        obtain ⟨op, oc, rfl⟩ := ownsRow_shape hown
        obtain ⟨happ, hfa⟩ := OwnS.app (W := W) (W1 := wc) (base := w.heap.size + 2) HSB.out (by omega) HOW.out HPV.out HPR.out hgc1 HU.out (fun g h => ⟨by have := (HUO.out g h).1; simpa using this, (HUO.out g h).2⟩) hown hgrow hat
        have hnb : ¬ (Value.slice pp (pls (rws pre)).length pc).ownBlock = some w.heap.size := fun h => by have := (HSB.out _ (HPV.out _ h)).1; omega
        have hno : ¬ (Value.slice pp (pls (rws pre)).length pc).ownBlock = some (w.heap.size + 1) := fun h => by have := (HSB.out _ (HPV.out _ h)).1; omega
        have cb := hfa.cell (p := ⟨w.heap.size, 0, none⟩) hnb hc0
        have hxb := hfa.boxed hx0 hnb
        have hxo := hfa.boxed hx1 hno
        have fb := hxb.frozen
        have HFA := Lib.hid hfa
        have HAPP := Lib.hid happ
        have HXB := Lib.hid hxb
        have HXO := Lib.hid hxo
        have HO5 := Lib.hid (HM.out.fr hfa (fun g hg' e => HD.out _ (HPV.out _ e) hg'))
        clear hown hgrow hnil hat happ hfa hxb hxo
        show _ ∧ _
        refine ⟨(by first | exact cb | exact fun _ => cb), ?_⟩
        refine hl_step 5 (by kernel_rfl) rfl ?_
        go_wp2_with fail
        show _ ∧ _
        refine ⟨(by first | exact fun h => absurd rfl h | trivial), ?_⟩
        refine hl_done (by kernel_rfl) ?_ _
        refine NoPanic.normal ?_
        gi_wp2
        have HW5 := Lib.hid (((hg.fr (fun q => w.heap.size ≤ q)).trans HFA.out (fun i hi e => by have := (HSB.out _ (HPV.out _ e)).1; omega)).g (fun _ h => h) : G w wa)
        have HF5 := Lib.hid ((HFA.out.mono (fun q e hq => hq.elim (fun h => HNP.out q (HPV.out q e) h) (fun h => by have := (HSB.out q (HPV.out q e)).1; omega)) : Fr (fun k => ¬ (Fo k ∨ (k < w.heap.size ∧ k ≠ w.heap.size))) W wa).setCell (p := ⟨w.heap.size, 0, none⟩) (.inl (fun h => h.elim hn0 (fun h => absurd (show w.heap.size < w.heap.size from h.1) (by omega)))) (.slice op ((pls (rws pre)).length + 1) oc))
        have hst : Fr (fun k => k = w.heap.size) wa (wa.setCell ⟨w.heap.size, 0, none⟩ (.slice op ((pls (rws pre)).length + 1) oc)) := (Fr.refl (fun k => k = w.heap.size) wa).setCell (p := ⟨w.heap.size, 0, none⟩) (.inl rfl) _
        have HA5 := HAPP.out.fr hst (fun g hg' e => by have := (HAPP.out.1 g hg').1; omega)
        have HB5 := HO5.out.fr hst (fun g hg' e => by have := (HO5.out.1 g hg').1; omega)
        exact ⟨HF5.out, _, vm, (fun k => Sp k ∨ (W.heap.size ≤ k ∧ k < wa.heap.size)), Sm, FBox.set _ ⟨hn0, HXB.out⟩, FBox.other _ ⟨hn1, HXO.out⟩ (by omega), ⟨fun k hk hf => hk.elim (fun h => HNP.out k h hf) (fun h => by have := hfl k hf; omega), by rw [pls_snoc]; simpa using HA5⟩, ⟨HNM.out, by rw [mns_snoc]; simpa using HB5⟩, fun k hk hm => hk.elim (fun h => HD.out k h hm) (fun h => by have := (HM.out.1 k hm).2; omega), ⟨hfg, HW5.out.setCell (by simp) _⟩⟩
    · cases s
      · gi_wp2
        obtain ⟨hSb, prv, pown, pv, prow⟩ := HM.out
        obtain ⟨pp, pc, hpv⟩ := ownsRow_shape pown
        subst hpv
        have hplen : (mns (rws pre)).length ≤ 2000000 := by have := mns_len (rws pre); rw [rws_len] at this; omega
        have HSB := Lib.hid hSb
        have HOW := Lib.hid pown
        have HPV := Lib.hid pv
        have HPR := Lib.hid prow
        clear hSb pown pv prow
        refine region_hl_round (fun w' => w'.cell? ⟨w.heap.size + 1, 0, none⟩ = some (.slice pp (mns (rws pre)).length pc)) 5 6 (by kernel_rfl) rfl (by kernel_rfl) ?_
        simp only [List.replicate_succ, List.replicate_zero]
        have hs0 : (fun w' : World => w'.cell? ⟨w.heap.size + 1, 0, none⟩ = some (.slice pp (mns (rws pre)).length pc)) W.drew := (G.drew (G.refl W)).cell hc1
        refine hl_take_np 0 (by kernel_rfl) (by kernel_rfl) rfl (by kernel_rfl) hs0 (v := ?_) ?_ ?_
        rotate_left
        · (rintro x hx; go_simp; try rfl)
        simp only [Act.put, List.setIfInBounds_toArray, List.set_cons_zero, List.set_cons_succ]
        refine hl_take_np 1 (by kernel_rfl) (by kernel_rfl) rfl (by kernel_rfl) hs0 (v := ?_) ?_ ?_
        rotate_left
        · (rintro x hx; go_simp; try rfl)
        simp only [Act.put, List.setIfInBounds_toArray, List.set_cons_zero, List.set_cons_succ]
        refine hl_stepW 2 (by kernel_rfl) rfl (by kernel_rfl) ?_
        intro K hK
        go_simp
        have hgd : G W W.drew := G.drew (G.refl W)
        refine (clone_any rl rv _ (HRD.out.g (hg.trans hgd)) (by omega)).mono ?_
        rintro e wc ⟨u, rfl, hu, huo, hgc⟩
        have hgc1 := hgd.trans hgc
        refine hK _ _ (fun _ => hgc1.cell hc1) ?_
        clear hK
        obtain ⟨up, uc, rfl⟩ := hu.shape
        have HU := Lib.hid hu
        have HUO := Lib.hid huo
        clear hu huo hgc
        simp only [Act.put, List.setIfInBounds_toArray, List.set_cons_zero, List.set_cons_succ]
        refine hl_step 3 (by kernel_rfl) rfl ?_
        go_wp2_with fail
        show _ ∧ _
        have hA : G W (wc.alloc (.cells #[.slice up rl.length uc] 22)) := hgc1.alloc _
        refine ⟨(by first | exact hA.cell hc1 | exact fun _ => hA.cell hc1), ?_⟩
        refine hl_step 4 (by kernel_rfl) rfl ?_
        have hszc := hgc1.size
        refine wpList_append2 _ rfl _ _ 25 rfl (w.heap.size + 2) 22 i0 (.slice none 0 0) 1 24 Try.underlying25 hi hz0 hz1 hz2 rfl (by decide) (.slice pp (mns (rws pre)).length pc) (mns (rws pre)).length prv rfl ((hgc1.ownsRow HOW.out).alloc _) ⟨wc.heap.size, 0, none⟩ 1 1 [.slice up rl.length uc] rfl rfl (cell_one_new _ _ _) (by simp [Value.oneCell']) (by unfold maxLen; omega) (by omega) (by simp; omega) ?_
        intro v' wa hown hgrow hnil hat
        obtain ⟨op, oc, rfl⟩ := ownsRow_shape hown
        obtain ⟨happ, hfa⟩ := OwnS.app (W := W) (W1 := wc) (base := w.heap.size + 2) HSB.out (by omega) HOW.out HPV.out HPR.out hgc1 HU.out (fun g h => ⟨by have := (HUO.out g h).1; simpa using this, (HUO.out g h).2⟩) hown hgrow hat
        have hnb : ¬ (Value.slice pp (mns (rws pre)).length pc).ownBlock = some (w.heap.size + 1) := fun h => by have := (HSB.out _ (HPV.out _ h)).1; omega
        have hno : ¬ (Value.slice pp (mns (rws pre)).length pc).ownBlock = some w.heap.size := fun h => by have := (HSB.out _ (HPV.out _ h)).1; omega
        have cb := hfa.cell (p := ⟨w.heap.size + 1, 0, none⟩) hnb hc1
        have hxb := hfa.boxed hx1 hnb
        have hxo := hfa.boxed hx0 hno
        have fb := hxb.frozen
        have HFA := Lib.hid hfa
        have HAPP := Lib.hid happ
        have HXB := Lib.hid hxb
        have HXO := Lib.hid hxo
        have HO5 := Lib.hid (HP.out.fr hfa (fun g hg' e => HD.out _ hg' (HPV.out _ e)))
        clear hown hgrow hnil hat happ hfa hxb hxo
        show _ ∧ _
        refine ⟨(by first | exact cb | exact fun _ => cb), ?_⟩
        refine hl_step 5 (by kernel_rfl) rfl ?_
        go_wp2_with fail
        show _ ∧ _
        refine ⟨(by first | exact fun h => absurd rfl h | trivial), ?_⟩
        refine hl_done (by kernel_rfl) ?_ _
        refine NoPanic.normal ?_
        gi_wp2
        have HW5 := Lib.hid (((hg.fr (fun q => w.heap.size ≤ q)).trans HFA.out (fun i hi e => by have := (HSB.out _ (HPV.out _ e)).1; omega)).g (fun _ h => h) : G w wa)
        have HF5 := Lib.hid ((HFA.out.mono (fun q e hq => hq.elim (fun h => HNM.out q (HPV.out q e) h) (fun h => by have := (HSB.out q (HPV.out q e)).1; omega)) : Fr (fun k => ¬ (Fo k ∨ (k < w.heap.size ∧ k ≠ w.heap.size))) W wa).setCell (p := ⟨w.heap.size + 1, 0, none⟩) (.inl (fun h => h.elim hn1 (fun h => absurd (show w.heap.size + 1 < w.heap.size from h.1) (by omega)))) (.slice op ((mns (rws pre)).length + 1) oc))
        have hst : Fr (fun k => k = w.heap.size + 1) wa (wa.setCell ⟨w.heap.size + 1, 0, none⟩ (.slice op ((mns (rws pre)).length + 1) oc)) := (Fr.refl (fun k => k = w.heap.size + 1) wa).setCell (p := ⟨w.heap.size + 1, 0, none⟩) (.inl rfl) _
        have HA5 := HAPP.out.fr hst (fun g hg' e => by have := (HAPP.out.1 g hg').1; omega)
        have HB5 := HO5.out.fr hst (fun g hg' e => by have := (HO5.out.1 g hg').1; omega)
        exact ⟨HF5.out, vp, _, Sp, (fun k => Sm k ∨ (W.heap.size ≤ k ∧ k < wa.heap.size)), FBox.other _ ⟨hn0, HXO.out⟩ (by omega), FBox.set _ ⟨hn1, HXB.out⟩, ⟨HNP.out, by rw [pls_snoc]; simpa using HB5⟩, ⟨fun k hk hf => hk.elim (fun h => HNM.out k h hf) (fun h => by have := hfl k hf; omega), by rw [mns_snoc]; simpa using HA5⟩, fun k hk hm => hm.elim (fun h => HD.out k hk h) (fun h => by have := (HP.out.1 k hk).2; omega), ⟨hfg, HW5.out.setCell (by simp) _⟩⟩
      · gi_wp2
        exact ⟨Fr.refl _ _, vp, vm, Sp, Sm, ⟨hn0, hx0⟩, ⟨hn1, hx1⟩, ⟨HNP.out, by rw [pls_snoc]; simpa using HP.out⟩, ⟨HNM.out, by rw [mns_snoc]; simpa using HM.out⟩, HD.out, hfg, hg⟩
  case done =>
    rintro D l2 It Fo W W3 hD hDl hIF hFD hIt hFo rfl hfr ⟨vp, vm, Sp, Sm, ⟨hn0, hx0⟩, ⟨hn1, hx1⟩, ⟨hnp, hop⟩, ⟨hnm, hom⟩, hdis, hfg, hg⟩ hK
    have hc0 := hx0.cell
    have hf0 := hx0.frozen
    have hc1 := hx1.cell
    have hf1 := hx1.frozen
    have HP0 := hop
    have HM0 := hom
    obtain ⟨-, prv, pown, -⟩ := HP0
    obtain ⟨pp, pc, hpv⟩ := ownsRow_shape pown
    obtain ⟨-, mrv, mown, -⟩ := HM0
    obtain ⟨mp, mc, hmv⟩ := ownsRow_shape mown
    subst hpv hmv
    have HP := Lib.hid hop
    have HM := Lib.hid hom
    have HK := Lib.hid hK
    clear pown mown
    generalize (pls (rws (mrg es fs))).length = np at *
    generalize (mns (rws (mrg es fs))).length = nm at *
    clear hop hom hK hseq
    go_upto_region 11 with fail
    refine region_hl (fun w' => w'.cell? ⟨w.heap.size, 0, none⟩ = some (.slice pp np pc) ∧ w'.cell? ⟨w.heap.size + 1, 0, none⟩ = some (.slice mp nm mc)) 99 5 (by kernel_rfl) rfl ?_
    simp only [List.replicate_succ, List.replicate_zero]
    have hs0 : (fun w' : World => w'.cell? ⟨w.heap.size, 0, none⟩ = some (.slice pp np pc) ∧ w'.cell? ⟨w.heap.size + 1, 0, none⟩ = some (.slice mp nm mc)) W.drew := ⟨(G.drew (G.refl W)).cell hc0, (G.drew (G.refl W)).cell hc1⟩
    refine hl_take_np 0 (by kernel_rfl) (by kernel_rfl) rfl (by kernel_rfl) hs0 (v := ?_) ?_ ?_
    rotate_left
    · (rintro x ⟨s1, s2⟩; go_simp; try rfl)
    simp only [Act.put, List.setIfInBounds_toArray, List.set_cons_zero, List.set_cons_succ]
    refine hl_take_np 1 (by kernel_rfl) (by kernel_rfl) rfl (by kernel_rfl) hs0 (v := ?_) ?_ ?_
    rotate_left
    · (rintro x ⟨s1, s2⟩; go_simp; try rfl)
    simp only [Act.put, List.setIfInBounds_toArray, List.set_cons_zero, List.set_cons_succ]
    have hxa := (FBox.set (.slice pp np pc) ⟨hn0, hx0⟩)
    have hxb := (FBox.other (B' := w.heap.size) (.slice pp np pc) ⟨hn1, hx1⟩ (by omega))
    have hxc := hxa.other (B' := w.heap.size + 1) (.slice mp nm mc) (by omega)
    have hxd := hxb.set (.slice mp nm mc)
    have ca := hxa.2.cell
    have cb := hxb.2.cell
    have cc := hxc.2.cell
    have cd := hxd.2.cell
    have fb := hxb.2.frozen
    refine hl_step 2 (by kernel_rfl) rfl ?_
    go_wp2_with fail
    show _ ∧ _
    refine ⟨(by first | exact ⟨ca, cb⟩ | exact fun _ => ⟨ca, cb⟩), ?_⟩
    refine hl_step 3 (by kernel_rfl) rfl ?_
    go_wp2_with fail
    show _ ∧ _
    refine ⟨(by first | exact ⟨cc, cd⟩ | exact fun _ => ⟨cc, cd⟩), ?_⟩
    refine hl_step 4 (by kernel_rfl) rfl ?_
    go_wp2_with fail
    show _ ∧ _
    refine ⟨(by first | exact ⟨cc, cd⟩ | exact fun _ => ⟨cc, cd⟩), ?_⟩
    refine hl_done (by kernel_rfl) ?_ _
    refine NoPanic.normal ?_
    go_wp2_with fail
    have hst : Fr (fun k => k = w.heap.size ∨ k = w.heap.size + 1) W (((W.setCell ⟨w.heap.size, 0, none⟩ (.slice pp np pc)).setCell ⟨w.heap.size + 1, 0, none⟩ (.slice mp nm mc)).drew) :=
      (((Fr.refl (fun k => k = w.heap.size ∨ k = w.heap.size + 1) W).setCell (p := ⟨w.heap.size, 0, none⟩) (.inl (.inl rfl)) _).setCell (p := ⟨w.heap.size + 1, 0, none⟩) (.inl (.inr rfl)) _).drew
    have hg5 : G w (((W.setCell ⟨w.heap.size, 0, none⟩ (.slice pp np pc)).setCell ⟨w.heap.size + 1, 0, none⟩ (.slice mp nm mc)).drew) := ((hg.setCell (p := ⟨w.heap.size, 0, none⟩) (by simp) _).setCell (p := ⟨w.heap.size + 1, 0, none⟩) (by simp) _).drew
    have x0 : Boxed (((W.setCell ⟨w.heap.size, 0, none⟩ (.slice pp np pc)).setCell ⟨w.heap.size + 1, 0, none⟩ (.slice mp nm mc)).drew) w.heap.size 25 (.slice pp np pc) := (G.drew (G.refl _)).boxed hxc.2
    have x1 : Boxed (((W.setCell ⟨w.heap.size, 0, none⟩ (.slice pp np pc)).setCell ⟨w.heap.size + 1, 0, none⟩ (.slice mp nm mc)).drew) (w.heap.size + 1) 25 (.slice mp nm mc) := (G.drew (G.refl _)).boxed hxd.2
    generalize (((W.setCell ⟨w.heap.size, 0, none⟩ (.slice pp np pc)).setCell ⟨w.heap.size + 1, 0, none⟩ (.slice mp nm mc)).drew) = W5 at hst hg5 x0 x1 ⊢
    have b0 := boxed_putObj (o := .deferred none) x0 (show w.heap.size ≠ D by omega)
    have b1 := boxed_putObj (o := .deferred none) x1 (show w.heap.size + 1 ≠ D by omega)
    have hrw : rws (mrg es fs) = mrgR xs ys := by unfold rws; rw [mrg_rows, HEM.out, HFM.out]
    have HP5 := (HP.out.fr hst (fun g hg e => by have := (HP.out.1 g hg).1; omega)).fr (putObj_fr W5 D (.deferred none)) (fun g hg e => hnp g hg (by rw [e]; exact hFD))
    have HM5 := (HM.out.fr hst (fun g hg e => by have := (HM.out.1 g hg).1; omega)).fr (putObj_fr W5 D (.deferred none)) (fun g hg e => hnm g hg (by rw [e]; exact hFD))
    rw [hrw] at HP5 HM5
    refine leave_mark (D := D) ((hst.block D hDl (by omega)).trans HK.out) (leave_nil (v := .tuple #[.slice pp np pc, .slice mp nm mc, .int .i64 0]) (by simp [results, Try.results11, go_sem, b0.cell, b1.cell]) ⟨_, _, rfl, HP5.own.mono (by omega), HM5.own.mono (by omega), hg5.putObj (by omega) _⟩)
  case stop =>
    intro D cc pre It Fo W W3 hD hDl hIF hFD hIt hFo hpart hfr hff hK
    exact hff.elim
end Go.Proofs.Ythhjioehkgbphaa
