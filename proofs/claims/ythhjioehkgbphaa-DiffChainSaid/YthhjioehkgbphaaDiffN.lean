/- rows behind a close that fits -/
import Derived.Test.YthhjioehkgbphaaDiffM
namespace Go.Proofs.Ythhjioehkgbphaa
set_option linter.unusedVariables false
set_option linter.unusedSimpArgs false
open Go.RowKit Go.Shelf
attribute [local go_sem] Oper.semAt_some

theorem FBlk.fr {S : Nat → Prop} {B : Nat} {o : Obj} {Fo : Nat → Prop} {W W' : World} (h : FBlk B o Fo W) (hf : Fr S W W') (hs : ¬ S B) : FBlk B o Fo W' := ⟨h.1, (hf.block B (Array.getElem?_eq_some_iff.1 h.2).1 hs).trans h.2⟩
/-- those that do not stand in the second ones -/
def lft (l : List (List Val × Bool × Bool)) : List (List Val) := (l.filter fun x => !x.2.2).map (·.1)
def lftE (l : List (El × Bool × Bool)) : List El := (l.filter fun x => !x.2.2).map (·.1)
def uni (l : List (List Val × Bool × Bool)) : List (List Val) := l.map (·.1)
theorem lftE_rows (l : List (El × Bool × Bool)) : (lftE l).map (·.2) = lft (rws l) := by
  unfold lftE lft rws
  rw [List.filter_map, List.map_map, List.map_map]
  rfl
theorem lftE_snoc (l : List (El × Bool × Bool)) (x : El × Bool × Bool) : lftE (l ++ [x]) = lftE l ++ (if x.2.2 = true then [] else [x.1]) := by
  unfold lftE
  rw [List.filter_append, List.map_append]
  congr 1
  cases h : x.2.2 <;> simp [h]
theorem lftE_len (l : List (El × Bool × Bool)) : (lftE l).length ≤ l.length := by unfold lftE; rw [List.length_map]; exact List.length_filter_le _ _
theorem lftE_mem {l : List (El × Bool × Bool)} {e : El} (h : e ∈ lftE l) : ∃ x ∈ l, x.1 = e := by
  unfold lftE at h
  obtain ⟨x, hx, rfl⟩ := List.mem_map.1 h
  exact ⟨x, (List.mem_filter.1 hx).1, rfl⟩
theorem uni_snoc (l : List (El × Bool × Bool)) (x : El × Bool × Bool) : uni (rws (l ++ [x])) = uni (rws l) ++ [x.1.2] := by simp [uni, rws]
theorem uni_len (l : List (El × Bool × Bool)) : (uni (rws l)).length = l.length := by simp [uni, rws]
def evals (es : List El) : List Value := es.map (·.1)
theorem rdrE_own {W : World} {base : Nat} {v : Value} {es : List El} (h : W.ownsRow base 22 1 v es.length (evals es)) (he : ∀ e ∈ es, RdrV W e.1 e.2) : RdrE W v es := by
  refine ⟨?_, he⟩
  rcases h.2 with ⟨rfl, h2⟩ | ⟨g, cap, cur, rfl, _, _, hc, _⟩
  · exact ⟨none, 0, by rw [h2], by omega, fun h0 => by omega⟩
  · refine ⟨_, _, rfl, hc, fun h0 => ⟨g, 0, rfl, fun i e hi => ?_⟩⟩
    have := h.cells (g := g) rfl i e.1 (by simp [evals, hi])
    rwa [addr_add] at this
set_option maxHeartbeats 1000000 in
theorem fold_ok (xs ps ms : List (List Val)) (va vp vm : Value) (qn an : Int) (w : World) (ha : RowsIn w va xs) (hp : RowsIn w vp ps) (hm : RowsIn w vm ms)
    (r1 : rgt none xs = true) (r2 : rgt none ps = true) (r3 : rgt none ms = true) (h1 : ∀ x ∈ mrgR xs ps, (x.2.1 && x.2.2) = false) (h2 : ∀ x ∈ mrgR xs ms, x.2.1 = true) (hl : RowsOK (lft (mrgR xs ms))) :
    Calls Try.prog 14 #[va, .agg #[.int .i64 qn, .int .i64 an, vp, vm]] w fun e w' => ∃ u, e = .returned (.tuple #[u, .int .i64 0]) ∧ OwnRV w.heap.size w' u (uni (mrgR (lft (mrgR xs ms)) ps)) ∧ G w w' := by
  obtain ⟨ap, ac, rfl, hac⟩ := ha.shape
  obtain ⟨pp, pc, rfl, hpc⟩ := hp.shape
  obtain ⟨mp, mc, rfl, hmc⟩ := hm.shape
  have hright : ∀ (ls : List (List Val)) (v : Value) (W : World), RowsIn w v ls → rgt none ls = true → G w W → Calls Try.prog 7 #[v] W fun e w' => e = .returned (.bool true) ∧ G W w' := fun ls v W h hr hg => by
    have := dright_any ls v W (h.rdr.g hg) h.ok.text (fun l hl => Nat.le_trans (h.ok.wide l hl) (by omega)) (Nat.le_trans h.ok.many (by omega))
    rwa [hr] at this
  have HR1 := Lib.hid (fun W hg => hright _ _ W ha r1 hg)
  have HR2 := Lib.hid (fun W hg => hright _ _ W hp r2 hg)
  have HR3 := Lib.hid (fun W hg => hright _ _ W hm r3 hg)
  have HFT := Lib.hid (fun W hg => fits_ok xs ps ms _ _ _ qn an W (ha.g hg) (hp.g hg) (hm.g hg) h1 h2 : ∀ W, G w W → _)
  have HA := Lib.hid ha
  have HP := Lib.hid hp
  have HM := Lib.hid hm
  have HL := Lib.hid hl
  clear ha hp hm h1 h2 hac hpc hmc hright r1 r2 r3 hl
  obtain ⟨i0, hi, hz0, hz1, hz2⟩ := info_parts infoS
  refine calls_of_marks Try.func14 rfl ?_
  simp only [Try.ntmps14, List.size_toArray, List.length_cons, List.length_nil, Nat.reduceAdd, Nat.reduceSub, Array.replicate_succ, Array.replicate_zero, List.push_toArray, List.append_toArray, List.nil_append, List.cons_append]
  go_wp2_with fail
  have hg0 : G w ((w.alloc (.cells #[.int .i64 qn, .int .i64 an, .slice pp ps.length pc, .slice mp ms.length mc] 36)).alloc (.cells #[.slice none 0 0] 25)) := ((G.refl w).alloc _).alloc _
  have hb1 : Boxed ((w.alloc (.cells #[.int .i64 qn, .int .i64 an, .slice pp ps.length pc, .slice mp ms.length mc] 36)).alloc (.cells #[.slice none 0 0] 25)) (w.heap.size + 1) 25 (.slice none 0 0) := boxed_at w [_, _] 1 _ _ rfl
  have hb0 : ((w.alloc (.cells #[.int .i64 qn, .int .i64 an, .slice pp ps.length pc, .slice mp ms.length mc] 36)).alloc (.cells #[.slice none 0 0] 25)).heap[w.heap.size]? = some (.cells #[.int .i64 qn, .int .i64 an, .slice pp ps.length pc, .slice mp ms.length mc] 36) := allocs_at w [_, _] 0 _ rfl
  have hs0 : ((w.alloc (.cells #[.int .i64 qn, .int .i64 an, .slice pp ps.length pc, .slice mp ms.length mc] 36)).alloc (.cells #[.slice none 0 0] 25)).heap.size = w.heap.size + 2 := by simp
  replace hs0 := Nat.le_of_eq hs0.symm
  generalize ((w.alloc (.cells #[.int .i64 qn, .int .i64 an, .slice pp ps.length pc, .slice mp ms.length mc] 36)).alloc (.cells #[.slice none 0 0] 25)) = w1 at hg0 hb1 hb0 hs0 ⊢
  refine (HR1.out w1 hg0).mono ?_
  rintro e w2 ⟨rfl, hga⟩
  have hg2 := hg0.trans hga
  have hb12 := hga.boxed hb1
  have hb02 := (hga.block (k := w.heap.size) (by omega)).trans hb0
  have hs2 := Nat.le_trans hs0 hga.size
  clear hga hg0 hb1 hb0 hs0
  have hc2 : w2.cell? ⟨w.heap.size, 2, none⟩ = some (.slice pp ps.length pc) := by unfold World.cell?; rw [hb02]; rfl
  have hc3 : w2.cell? ⟨w.heap.size, 3, none⟩ = some (.slice mp ms.length mc) := by unfold World.cell?; rw [hb02]; rfl
  have HB02 := Lib.hid hb02
  clear hb02
  go_wp2_with fail
  refine (HR2.out w2 hg2).mono ?_
  rintro e w3 ⟨rfl, hga⟩
  have hg3 := hg2.trans hga
  have hb13 := hga.boxed hb12
  have HB03 := Lib.hid ((hga.block (k := w.heap.size) (by omega)).trans HB02.out)
  have hs3 := Nat.le_trans hs2 hga.size
  have hd2 := hga.cell hc2
  have hd3 := hga.cell hc3
  clear hga hg2 hb12 HB02 hs2 hc2 hc3
  go_wp2_with fail
  refine (HR3.out w3 hg3).mono ?_
  rintro e w4 ⟨rfl, hga⟩
  have hg4 := hg3.trans hga
  have hb14 := hga.boxed hb13
  have HB04 := Lib.hid ((hga.block (k := w.heap.size) (by omega)).trans HB03.out)
  have hs4 := Nat.le_trans hs3 hga.size
  have hc0 : w4.cell? ⟨w.heap.size, 0, none⟩ = some (.int .i64 qn) := by unfold World.cell?; rw [HB04.out]; rfl
  have hc1 : w4.cell? ⟨w.heap.size, 1, none⟩ = some (.int .i64 an) := by unfold World.cell?; rw [HB04.out]; rfl
  have hc2 : w4.cell? ⟨w.heap.size, 2, none⟩ = some (.slice pp ps.length pc) := by unfold World.cell?; rw [HB04.out]; rfl
  have hc3 : w4.cell? ⟨w.heap.size, 3, none⟩ = some (.slice mp ms.length mc) := by unfold World.cell?; rw [HB04.out]; rfl
  clear hga hg3 hb13 HB03 hs3 hd2 hd3
  go_wp2_with fail
  refine (HFT.out w4 hg4).mono ?_
  rintro e w5 ⟨rfl, hga⟩
  have hg5 := hg4.trans hga
  have hb15 := hga.boxed hb14
  have HB05 := Lib.hid ((hga.block (k := w.heap.size) (by omega)).trans HB04.out)
  have hs5 := Nat.le_trans hs4 hga.size
  have hd2 := hga.cell hc2
  have hd3 := hga.cell hc3
  clear hga hg4 hb14 HB04 hs4 hc0 hc1 hc2 hc3 HR1 HR2 HR3 HFT
  have he2 := ((G.refl w5).alloc (.cells #[.slice none 0 0] 25)).cell hd2
  have he3 := ((G.refl w5).alloc (.cells #[.slice none 0 0] 25)).cell hd3
  have hg6 : G w (w5.alloc (.cells #[.slice none 0 0] 25)) := hg5.alloc _
  have hb16 := ((G.refl w5).alloc (.cells #[.slice none 0 0] 25)).boxed hb15
  have hb06 := ((((G.refl w5).alloc (.cells #[.slice none 0 0] 25)).block (k := w.heap.size) (by omega)).trans HB05.out : (w5.alloc (.cells #[.slice none 0 0] 25)).heap[w.heap.size]? = some (.cells #[.int .i64 qn, .int .i64 an, .slice pp ps.length pc, .slice mp ms.length mc] 36))
  have hb76 : Boxed (w5.alloc (.cells #[.slice none 0 0] 25)) w5.heap.size 25 (.slice none 0 0) := boxed_at w5 [_] 0 _ _ rfl
  have hs6 : w5.heap.size + 1 ≤ (w5.alloc (.cells #[.slice none 0 0] 25)).heap.size := by simp
  have HB06 := Lib.hid hb06
  clear hd2 hd3 hb06 hb15 HB05
  go_wp2_with fail
  generalize (w5.alloc (.cells #[.slice none 0 0] 25)) = w6 at *
  generalize w5.heap.size = B7 at hb76 hs6 hs5 ⊢
  refine (beside_any _ _ ap mp xs.length ac ms.length mc rfl rfl w6).mono ?_
  rintro e w7 ⟨rfl, hw7⟩
  have hg67 : G w6 w7 := by rw [hw7]; exact ((G.refl w6).alloc _).alloc _
  have hba : Boxed w7 w6.heap.size 25 (.slice ap xs.length ac) := by rw [hw7]; exact boxed_at w6 [_, _] 0 _ _ rfl
  have hbb : Boxed w7 (w6.heap.size + 1) 25 (.slice mp ms.length mc) := by rw [hw7]; exact boxed_at w6 [_, _] 1 _ _ rfl
  have hsz7 : w6.heap.size + 2 ≤ w7.heap.size := by rw [hw7]; exact Nat.le_of_eq (allocs_size w6 [_, _]).symm
  clear hw7
  obtain ⟨es, fs, hrw, hmem, hlen, hsq⟩ := beside_in w w6 xs ms ap mp ac mc HA.out HM.out hg6
  have hseq := hsq w7 hg67 hba hbb
  have HMEM := Lib.hid hmem
  have HRW := Lib.hid hrw
  have HLEN := Lib.hid hlen
  clear hmem hsq hrw hlen hba hbb
  have hgw7 := hg6.trans hg67
  have hb17 := hg67.boxed hb16
  have hb77 := hg67.boxed hb76
  have hb07 := (hg67.block (k := w.heap.size) (by omega)).trans HB06.out
  clear hb16 hb76 HB06 he2 he3 hg67
  go_wp2_with fail
  refine range_wp2 (gf := 32) (lb := #[.pointer (some ⟨w6.heap.size, 0, none⟩), .pointer (some ⟨w6.heap.size + 1, 0, none⟩)]) (fun x W => W.alloc (.cells #[.bool x.2.1, .bool x.2.2] 55)) (fun x W => (G.refl W).alloc _) rfl (enters_of Try.func32 (by kernel_rfl) rfl)
    hseq (G.refl _) (by rintro k (rfl | rfl) <;> omega) (fun k hk => by omega) (fun _ => rfl)
    (fun pre Fo W => ∃ vl, FBox B7 25 vl Fo W ∧ FRow (B7 + 1) 22 1 vl (lftE pre).length (evals (lftE pre)) Fo W ∧ FBox (w.heap.size + 1) 25 (.slice none 0 0) Fo W ∧ FBlk w.heap.size (.cells #[.int .i64 qn, .int .i64 an, .slice pp ps.length pc, .slice mp ms.length mc] 36) Fo W ∧ pre <+: mrg es fs ∧ FG w Fo W)
    (fun c pre Fo W => False)
    (fun p => Stable.ex fun vl => (Stable.box _ _ _).and ((Stable.row _ _ _ _ _ _).and ((Stable.box _ _ _).and ((Stable.blk _ _).and ((Stable.pure _).and (Stable.fg _))))))
    (fun c p => Stable.pure _)
    ⟨.slice none 0 0, ⟨by rintro (h | h) <;> omega, hb77⟩, ⟨fun _ h => (by cases h), World.ownsRow_nil _ _ _ _⟩, ⟨by rintro (h | h) <;> omega, hb17⟩, ⟨by rintro (h | h) <;> omega, hb07⟩, List.nil_prefix, by rintro k (rfl | rfl) <;> omega, hgw7⟩
    ?a1 ?assign ?body ?done ?stop
  case assign =>
    intro l x W K hK
    simp only [encE]
    gi_wp2
    exact hK
  case stop =>
    intro D cc pre It Fo W W3 hD hDl hIF hFD hIt hFo hpart hfr hff hK
    exact hff.elim
  case body =>
    rintro l pre x Fo W0 W hW0 hW3 hfrW hfo hfl hsz2 ⟨vl, ⟨hn7, hx7⟩, ⟨hnr, hrow⟩, hbx1, hbk0, hpp, hfg, hg⟩ hpre
    obtain ⟨⟨rv, rl⟩, f, s⟩ := x
    obtain ⟨hrd, hrl, -⟩ := HMEM.out ((rv, rl), f, s) (hpre.subset (by simp))
    simp only at hrd hrl hfrW
    have hne8 : ¬ W0.heap.size = w7.heap.size + 1 := by omega
    have k0 : W.cell? ⟨W0.heap.size, 0, none⟩ = some (.bool f) := hfrW.cell (p := ⟨W0.heap.size, 0, none⟩) hne8 (cell_alloc_at W0 [.bool f, .bool s] 55 (0, 0) 0 _ rfl)
    have k1 : W.cell? ⟨W0.heap.size, 1, none⟩ = some (.bool s) := hfrW.cell (p := ⟨W0.heap.size, 1, none⟩) hne8 (cell_alloc_at W0 [.bool f, .bool s] 55 (0, 0) 1 _ rfl)
    obtain ⟨lp, lc, hvl⟩ := ownsRow_shape hrow
    subst hvl
    obtain ⟨rp, rc, hrv⟩ := hrd.shape
    subst hrv
    have hc7 := hx7.cell
    have hf7 := hx7.frozen
    have hll : (lftE pre).length ≤ 2000000 := by
      have h1 := lftE_len pre
      have h2 := hpp.length_le
      have h3 := HLEN.out
      omega
    have HH := Lib.hid (And.intro hpre (And.intro hbx1 (And.intro hbk0 hrd)))
    have HPRE := Lib.hid hpre
    clear hpre hbx1 hbk0 hpp hrd hfrW
    cases s
    · have hsn : lftE (pre ++ [((.slice rp rl.length rc, rl), f, false)]) = lftE pre ++ [(.slice rp rl.length rc, rl)] := by rw [lftE_snoc]; rfl
      have HSN := Lib.hid hsn
      clear hsn
      gi_wp2_with (gi_at_builtin; refine wpListIn_append2 _ rfl _ _ 25 rfl (B7 + 1) 22 i0 (.slice none 0 0) 1 24 Try.underlying25 hi hz0 hz1 hz2 rfl (by decide) (.slice lp (lftE pre).length lc) (lftE pre).length (evals (lftE pre)) rfl ((G.alloc (G.refl W) _).ownsRow hrow) ⟨W.heap.size, 0, none⟩ 1 1 [.slice rp rl.length rc] rfl rfl (cell_one_new _ _ _) (by simp [Value.oneCell']) (by unfold maxLen; omega) (by omega) (by simp; omega) ?_; intro v' w1' hown hgrow hnil hat; obtain ⟨op, oc, rfl⟩ := ownsRow_shape hown; have hap := FRow.appended ⟨hnr, hrow⟩ hown hgrow hat hfl; have hfa := hap.2; have hnb : ¬ (Value.slice lp (lftE pre).length lc).ownBlock = some B7 := (fun h => by have := (hrow.lt _ h).1; omega); have hxb := hfa.boxed hx7 hnb; have cb := hxb.cell; have fb := hxb.frozen; have HAP := Lib.hid hap; have HXB := Lib.hid hxb; clear hown hgrow hnil hat hap hfa hxb)
      have hnz : ∀ B, B < B7 + 1 → ¬ (Value.slice lp (lftE pre).length lc).ownBlock = some B := fun B hB h => by have := (hrow.lt _ h).1; omega
      have hst : Fr (fun k => k = B7) w1' (w1'.setCell ⟨B7, 0, none⟩ (.slice op ((lftE pre).length + 1) oc)) := (Fr.refl (fun k => k = B7) w1').setCell (p := ⟨B7, 0, none⟩) (.inl rfl) _
      have hF5 := ((HAP.out.2.mono (fun q e hq => hq.elim (fun h => hnr q e h) (fun h => hnz q (by omega) e)) : Fr (fun k => ¬ (Fo k ∨ (k < w.heap.size ∧ k ≠ w.heap.size))) W w1').setCell (p := ⟨B7, 0, none⟩) (.inl (fun h => h.elim hn7 (fun h => absurd (show B7 < w.heap.size from h.1) (by omega)))) (.slice op ((lftE pre).length + 1) oc))
      have hW5 : G w w1' := ((hg.fr (fun q => w.heap.size ≤ q)).trans HAP.out.2 (fun i hi e => by have := (hrow.lt _ e).1; omega)).g (fun _ h => h)
      have hr5 := FRow.setCell HAP.out.1 (p := ⟨B7, 0, none⟩) (Nat.lt_succ_self _) (.slice op ((lftE pre).length + 1) oc)
      refine ⟨hF5, .slice op ((lftE pre).length + 1) oc, FBox.set _ ⟨hn7, HXB.out⟩, ?_, (HH.out.2.1.fr HAP.out.2 (hnz _ (by omega))).other _ (by omega), (HH.out.2.2.1.fr HAP.out.2 (hnz _ (by omega))).fr hst (by omega), HPRE.out, hfg, hW5.setCell (by simp; omega) _⟩
      rw [HSN.out]
      simpa [evals] using hr5
    · gi_wp2
      exact ⟨Fr.refl _ _, _, ⟨hn7, hx7⟩, ⟨hnr, by rw [lftE_snoc]; simpa using hrow⟩, HH.out.2.1, HH.out.2.2.1, HPRE.out, hfg, hg⟩
  case done =>
    rintro D l2 It Fo W W3 hD hDl hIF hFD hIt hFo rfl hfr ⟨vl, ⟨hn7, hx7⟩, ⟨hnr, hrow⟩, ⟨hn1, hx1⟩, ⟨hn0, hx0⟩, -, hfg, hg⟩ hK
    obtain ⟨lp, lc, hvl⟩ := ownsRow_shape hrow
    subst hvl
    obtain ⟨gs, hgs, hgsm⟩ := rdrE_of HP.out.rdr (HP.out.cap _ _ _ rfl)
    have hgl : gs.length = ps.length := by rw [← hgsm]; simp
    have hle : (lftE (mrg es fs)).length = (lft (mrgR xs ms)).length := by rw [← HRW.out, ← lftE_rows]; simp
    have hlm := HL.out.many
    have hpm := HP.out.ok.many
    have hem : ∀ e ∈ lftE (mrg es fs), RdrV w e.1 e.2 ∧ e.2.length ≤ 1000000 := fun e he => by
      obtain ⟨x, hx, rfl⟩ := lftE_mem he
      exact ⟨(HMEM.out x hx).1, (HMEM.out x hx).2.1⟩
    have hgm : ∀ e ∈ gs, RdrV w e.1 e.2 ∧ e.2.length ≤ 1000000 := fun e he => ⟨hgs.2 e he, HP.out.ok.wide _ (by rw [← hgsm]; exact List.mem_map_of_mem he)⟩
    have hels : RdrE W (.slice lp (lftE (mrg es fs)).length lc) (lftE (mrg es fs)) := rdrE_own hrow (fun e he => (hem e he).1.g hg)
    have hnoA : NoX (w.heap.size + 1) (.slice lp (lftE (mrg es fs)).length lc) (lftE (mrg es fs)) :=
      ⟨fun _ e => by have := (hrow.lt _ e).1; omega, fun e he h0 e2 => by have := Rdr.lt (hem e he).1 h0 (by omega) _ e2; omega⟩
    have hnoB : NoX (w.heap.size + 1) (.slice pp ps.length pc) gs := noX_of hgs (by omega)
    have hrw2 : rws (mrg (lftE (mrg es fs)) gs) = mrgR (lft (mrgR xs ms)) ps := by unfold rws; rw [mrg_rows, lftE_rows, HRW.out, hgsm]
    generalize lftE (mrg es fs) = els at *
    obtain ⟨nl, hnl⟩ : ∃ n, n = els.length := ⟨_, rfl⟩
    rw [← hnl] at hle hels hnoA hx7 hrow
    have HNL := Lib.hid hnl
    have HELS := Lib.hid (And.intro hels (And.intro (hgs.g hg) (And.intro hnoA hnoB)))
    have HEM := Lib.hid hem
    have HGM := Lib.hid hgm
    have HRW2 := Lib.hid hrw2
    have hnl2 : nl ≤ 1000000 := by omega
    have HGL := Lib.hid hgl
    have HK := Lib.hid hK
    have hc7 := hx7.cell
    have hc2 : W.cell? ⟨w.heap.size, 2, none⟩ = some (.slice pp ps.length pc) := by unfold World.cell?; rw [hx0]; rfl
    have hWs : w7.heap.size ≤ W.heap.size := by omega
    clear hnl hels hgs hnoA hnoB hem hgm hrw2 hle hlm hgl hgsm hK hx0 hseq hfr hrow hnr HMEM HRW HLEN HL
    go_wp2_with fail
    refine (beside_any _ _ lp pp nl lc ps.length pc rfl rfl W).mono ?_
    rintro e w8 ⟨rfl, hw8⟩
    have hg28 : G W w8 := by rw [hw8]; exact ((G.refl W).alloc _).alloc _
    have hba : Boxed w8 W.heap.size 25 (.slice lp nl lc) := by rw [hw8]; exact boxed_at W [_, _] 0 _ _ rfl
    have hbb : Boxed w8 (W.heap.size + 1) 25 (.slice pp ps.length pc) := by rw [hw8]; exact boxed_at W [_, _] 1 _ _ rfl
    have hsz8 : W.heap.size + 2 ≤ w8.heap.size := by rw [hw8]; exact Nat.le_of_eq (allocs_size W [_, _]).symm
    clear hw8
    have hseq := beside_seq W (w.heap.size + 1) W.heap.size (W.heap.size + 1) els gs (.slice lp nl lc) (.slice pp ps.length pc) w8 hg28 HELS.out.1 HELS.out.2.1 hba hbb (by omega) (by have := HNL.out; omega) (by have := HGL.out; omega)
      (fun e he => Nat.le_trans (HEM.out e he).2 (by omega)) (fun e he => Nat.le_trans (HGM.out e he).2 (by omega)) (Nat.le_refl _) (by omega) HELS.out.2.2.1 HELS.out.2.2.2
    have hmem2 : ∀ (pre : List (El × Bool × Bool)) (x : El × Bool × Bool), pre ++ [x] <+: mrg els gs → RdrV w x.1.1 x.1.2 ∧ x.1.2.length ≤ 1000000 ∧ pre.length < 2000000 := fun pre x hp => by
      have hm : x ∈ mrg els gs := hp.subset (by simp)
      have hl : (pre ++ [x]).length ≤ (mrg els gs).length := hp.length_le
      have hl2 : (mrg els gs).length ≤ els.length + gs.length := by
        have h1 := mrgR_len (els.map (·.2)) (gs.map (·.2))
        rw [← mrg_rows] at h1
        simpa using h1
      have h3 := HNL.out; have h4 := HGL.out
      simp at hl
      rcases mrg_mem els gs x hm with h | h
      · exact ⟨(HEM.out _ h).1, (HEM.out _ h).2, by omega⟩
      · exact ⟨(HGM.out _ h).1, (HGM.out _ h).2, by omega⟩
    have HMEM := Lib.hid hmem2
    have hgw8 := hg.trans hg28
    have hb18 := hg28.boxed hx1
    have hD8 := (hg28.block hDl).trans HK.out
    have hD1 : ¬ D = w.heap.size + 1 := by omega
    clear HK hmem2 hc7 hc2 hba hbb
    go_wp2_with fail
    refine range_wp (gf := 32) (lb := #[.pointer (some ⟨W.heap.size, 0, none⟩), .pointer (some ⟨W.heap.size + 1, 0, none⟩)]) rfl (enters_of Try.func32 (by kernel_rfl) rfl)
      hseq (G.refl _) (by rintro k (rfl | rfl) <;> omega) (fun k hk => by omega) (fun _ => rfl)
      (fun pre Fo W' => ∃ vo, ∃ So : Nat → Prop, FBox (w.heap.size + 1) 25 vo Fo W' ∧ FOwn W.heap.size So vo (uni (rws pre)) Fo W' ∧ FBlk D (.deferred (some [])) Fo W' ∧ FG w Fo W')
      (fun c pre Fo W => False)
      (fun p => Stable.ex fun vo => Stable.ex fun So => (Stable.box _ _ _).and ((Stable.own _ _ _ _).and ((Stable.blk _ _).and (Stable.fg _))))
      (fun c p => Stable.pure _)
      ⟨.slice none 0 0, fun _ => False, ⟨by rintro (h | h) <;> omega, hb18⟩, ⟨fun _ h => h.elim, OwnS.nil _ _⟩, ⟨by rintro (h | h) <;> omega, hD8⟩, by rintro k (rfl | rfl) <;> omega, hgw8⟩
      ?b1 ?assign ?body ?done ?stop
    case assign =>
      intro l x W K hK
      simp only [encE]
      gi_wp2
      exact hK
    case stop =>
      intro D cc pre It Fo W W3 hD hDl hIF hFD hIt hFo hpart hfr hff hK
      exact hff.elim
    case body =>
      rintro l pre x Fo' W' hfo' hfl' hsz2' ⟨vo, So, ⟨hnx, hxx⟩, ⟨hns, hown0⟩, hdd, hfg', hg'⟩ hpre
      obtain ⟨⟨rv, rl⟩, f, s⟩ := x
      obtain ⟨hrd, hrl, hpl⟩ := HMEM.out _ _ hpre
      simp only at hrd hrl hpl
      obtain ⟨hSb, prv, pown, pv, prow⟩ := hown0
      obtain ⟨op0, oc0, hpv⟩ := ownsRow_shape pown
      subst hpv
      have hplen : (uni (rws pre)).length ≤ 2000000 := by rw [uni_len]; omega
      have hc0 := hxx.cell
      have hf0 := hxx.frozen
      have HSB := Lib.hid hSb
      have HOW := Lib.hid pown
      have HPV := Lib.hid pv
      have HPR := Lib.hid prow
      have HRD := Lib.hid hrd
      have HDD := Lib.hid hdd
      have HNS := Lib.hid hns
      clear hSb pown pv prow hrd hpre hdd hns hseq
      gi_wp2
      refine region_hl_round (fun w' => w'.cell? ⟨w.heap.size + 1, 0, none⟩ = some (.slice op0 (uni (rws pre)).length oc0)) 5 6 (by kernel_rfl) rfl (by kernel_rfl) ?_
      simp only [List.replicate_succ, List.replicate_zero]
      have hs0 : (fun w' : World => w'.cell? ⟨w.heap.size + 1, 0, none⟩ = some (.slice op0 (uni (rws pre)).length oc0)) W'.drew := (G.drew (G.refl W')).cell hc0
      refine hl_take_np 0 (by kernel_rfl) (by kernel_rfl) rfl (by kernel_rfl) hs0 (v := ?_) ?_ ?_
      rotate_left
      · (rintro x hx; go_simp; try rfl)
      simp only [Act.put, List.setIfInBounds_toArray, List.set_cons_zero, List.set_cons_succ]
      refine hl_take_np 1 (by kernel_rfl) (by kernel_rfl) rfl (by kernel_rfl) hs0 (v := ?_) ?_ ?_
      rotate_left
      · (rintro x hx; go_simp; try rfl)
      simp only [Act.put, List.setIfInBounds_toArray, List.set_cons_zero, List.set_cons_succ]
      refine hl_stepW 2 (by kernel_rfl) rfl (by kernel_rfl) ?_
      intro K hK
      go_simp
      have hgd : G W' W'.drew := G.drew (G.refl W')
      refine (clone_any rl rv _ (HRD.out.g (hg'.trans hgd)) (by omega)).mono ?_
      rintro e wc ⟨u, rfl, hu, huo, hgc⟩
      have hgc1 := hgd.trans hgc
      refine hK _ _ (fun _ => hgc1.cell hc0) ?_
      clear hK
      obtain ⟨up, uc, rfl⟩ := hu.shape
      have HU := Lib.hid hu
      have HUO := Lib.hid huo
      clear hu huo hgc
      simp only [Act.put, List.setIfInBounds_toArray, List.set_cons_zero, List.set_cons_succ]
      refine hl_step 3 (by kernel_rfl) rfl ?_
      go_wp2_with fail
      show _ ∧ _
      have hA : G W' (wc.alloc (.cells #[.slice up rl.length uc] 22)) := hgc1.alloc _
      refine ⟨(by first | exact hA.cell hc0 | exact fun _ => hA.cell hc0), ?_⟩
      refine hl_step 4 (by kernel_rfl) rfl ?_
      have hszc := hgc1.size
      refine wpList_append2 _ rfl _ _ 25 rfl W.heap.size 22 i0 (.slice none 0 0) 1 24 Try.underlying25 hi hz0 hz1 hz2 rfl (by decide) (.slice op0 (uni (rws pre)).length oc0) (uni (rws pre)).length prv rfl ((hgc1.ownsRow HOW.out).alloc _) ⟨wc.heap.size, 0, none⟩ 1 1 [.slice up rl.length uc] rfl rfl (cell_one_new _ _ _) (by simp [Value.oneCell']) (by unfold maxLen; omega) (by omega) (by simp; omega) ?_
      intro v' wa hown hgrow hnil hat
      obtain ⟨op, oc, rfl⟩ := ownsRow_shape hown
      obtain ⟨happ, hfa⟩ := OwnS.app (W := W') (W1 := wc) (base := W.heap.size) HSB.out (by omega) HOW.out HPV.out HPR.out hgc1 HU.out (fun g h => ⟨by have := (HUO.out g h).1; simpa using this, (HUO.out g h).2⟩) hown hgrow hat
      have hnz : ∀ B, B < W.heap.size → ¬ (Value.slice op0 (uni (rws pre)).length oc0).ownBlock = some B := fun B hB h => by have := (HSB.out _ (HPV.out _ h)).1; omega
      have cb := hfa.cell (p := ⟨w.heap.size + 1, 0, none⟩) (hnz (w.heap.size + 1) (by omega)) hc0
      have hxb := hfa.boxed hxx (hnz _ (by omega))
      have fb := hxb.frozen
      have HFA := Lib.hid hfa
      have HAPP := Lib.hid happ
      have HXB := Lib.hid hxb
      clear hown hgrow hnil hat happ hfa hxb
      show _ ∧ _
      refine ⟨(by first | exact cb | exact fun _ => cb), ?_⟩
      refine hl_step 5 (by kernel_rfl) rfl ?_
      go_wp2_with fail
      show _ ∧ _
      refine ⟨(by first | exact fun h => absurd rfl h | trivial), ?_⟩
      refine hl_done (by kernel_rfl) ?_ _
      refine NoPanic.normal ?_
      gi_wp2
      have hWw := hg.size
      have HW5 := Lib.hid (((hg'.fr (fun q => w.heap.size ≤ q)).trans HFA.out (fun i hi e => by have := (HSB.out _ (HPV.out _ e)).1; omega)).g (fun _ h => h) : G w wa)
      have HF5 := Lib.hid ((HFA.out.mono (fun q e hq => hq.elim (fun h => HNS.out q (HPV.out q e) h) (fun h => hnz q h.1 e)) : Fr (fun k => ¬ (Fo' k ∨ (k < W.heap.size ∧ k ≠ w.heap.size + 1))) W' wa).setCell (p := ⟨w.heap.size + 1, 0, none⟩) (.inl (fun h => h.elim hnx (fun h => h.2 rfl))) (.slice op ((uni (rws pre)).length + 1) oc))
      have hst : Fr (fun k => k = w.heap.size + 1) wa (wa.setCell ⟨w.heap.size + 1, 0, none⟩ (.slice op ((uni (rws pre)).length + 1) oc)) := (Fr.refl (fun k => k = w.heap.size + 1) wa).setCell (p := ⟨w.heap.size + 1, 0, none⟩) (.inl rfl) _
      have HA5 := HAPP.out.fr hst (fun g hg' e => by have := (HAPP.out.1 g hg').1; omega)
      exact ⟨HF5.out, _, (fun k => So k ∨ (W'.heap.size ≤ k ∧ k < wa.heap.size)), FBox.set _ ⟨hnx, HXB.out⟩, ⟨fun k hk hf => hk.elim (fun h => HNS.out k h hf) (fun h => by have := hfl' k hf; omega), by rw [uni_snoc]; exact HA5⟩, (HDD.out.fr HFA.out (hnz _ hDl)).fr hst hD1, hfg', HW5.out.setCell (by simp) _⟩
    case done =>
      rintro D2 l2 It' Fo' W' W3' hD' hDl' hIF' hFD' hIt' hFo' rfl hfr' ⟨vo, So, ⟨hnx, hxx⟩, ⟨hns, hown0⟩, ⟨hnd, hdd⟩, hfg', hg'⟩ hK'
      have hown1 := hown0
      obtain ⟨-, prv, pown, -⟩ := hown1
      obtain ⟨op0, oc0, hpv⟩ := ownsRow_shape pown
      subst hpv
      have HOWN := Lib.hid hown0
      have HNS := Lib.hid hns
      have HK1 := Lib.hid hdd
      have HK2 := Lib.hid hK'
      have hc1 := hxx.cell
      have hf1 := hxx.frozen
      clear hown0 hns hdd hK' hseq hfr' pown
      generalize (uni (rws (mrg els gs))).length = no at *
      go_wp2_with fail
      have x1 := hxx.set (.slice op0 no oc0)
      have hDD : D2 ≠ D := by omega
      have hst : Fr (fun k => k = w.heap.size + 1) W' (W'.setCell ⟨w.heap.size + 1, 0, none⟩ (.slice op0 no oc0)) := (Fr.refl (fun k => k = w.heap.size + 1) W').setCell (p := ⟨w.heap.size + 1, 0, none⟩) (.inl rfl) _
      have k2 := (hst.block D2 hDl' (by omega)).trans HK2.out
      have k1 := (hst.block D (by omega) (by omega)).trans HK1.out
      have hg5 : G w (W'.setCell ⟨w.heap.size + 1, 0, none⟩ (.slice op0 no oc0)) := hg'.setCell (by simp) _
      have HO5 := Lib.hid (HOWN.out.fr hst (fun g hg e => by have := (HOWN.out.1 g hg).1; omega))
      generalize (W'.setCell ⟨w.heap.size + 1, 0, none⟩ (.slice op0 no oc0)) = W5 at x1 k1 k2 hg5 HO5 ⊢
      have HO6 := (HO5.out.fr (putObj_fr W5 D2 (.deferred none)) (fun g hg e => HNS.out g hg (by rw [e]; exact hFD'))).fr (putObj_fr _ D (.deferred none)) (fun g hg e => by have := (HOWN.out.1 g hg).1; omega)
      rw [HRW2.out] at HO6
      have b0 := boxed_putObj (o := .deferred none) x1 (show w.heap.size + 1 ≠ D2 by omega)
      have b1 := boxed_putObj (o := .deferred none) b0 (show w.heap.size + 1 ≠ D by omega)
      have hWw := hg.size
      refine leave_mark (D := D2) k2 (leave_mark (D := D) ((World.putObj_heap_other (Ne.symm hDD)).trans k1) (leave_nil (v := .tuple #[.slice op0 no oc0, .int .i64 0]) (by simp [results, Try.results14, go_sem, b1.cell]) ⟨_, rfl, HO6.own.mono (by omega), (hg5.putObj (by omega) _).putObj (by omega) _⟩))
end Go.Proofs.Ythhjioehkgbphaa
