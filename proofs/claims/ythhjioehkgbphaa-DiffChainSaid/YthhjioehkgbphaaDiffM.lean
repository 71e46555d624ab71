/- whether a close fits: where it does -/
import Derived.Test.YthhjioehkgbphaaDiffJ
namespace Go.Proofs.Ythhjioehkgbphaa
set_option linter.unusedVariables false
set_option linter.unusedSimpArgs false
open Go.RowKit Go.Shelf
attribute [local go_sem] Oper.semAt_some

/-- rows that came in, with what their slices need -/
structure RowsIn (W : World) (v : Value) (ls : List (List Val)) : Prop where
  rdr : RdrRV W v ls
  cap : ∀ p n c, v = .slice p n c → n ≤ c
  ok : RowsOK ls
theorem RowsIn.g {W W' : World} {v : Value} {ls : List (List Val)} (h : RowsIn W v ls) (hg : G W W') : RowsIn W' v ls := ⟨h.rdr.g hg, h.cap, h.ok⟩
theorem RowsIn.shape {W : World} {v : Value} {ls : List (List Val)} (h : RowsIn W v ls) : ∃ p c, v = .slice p ls.length c ∧ ls.length ≤ c := by
  obtain ⟨p, c, rfl⟩ := h.rdr.shape
  exact ⟨p, c, rfl, h.cap _ _ _ rfl⟩
/-- side by side, with the rows' marks known -/
theorem beside_in (w0 w2 : World) (xs ys : List (List Val)) (p q : Option Addr) (c d : Nat) (ha : RowsIn w0 (.slice p xs.length c) xs) (hb : RowsIn w0 (.slice q ys.length d) ys) (hg : G w0 w2) :
    ∃ es fs : List El, rws (mrg es fs) = mrgR xs ys ∧ (∀ x ∈ mrg es fs, RdrV w0 x.1.1 x.1.2 ∧ x.1.2.length ≤ 1000000 ∧ (x.1.2, x.2) ∈ mrgR xs ys) ∧ (mrg es fs).length ≤ 2000000 ∧
      ∀ w3 : World, G w2 w3 → Boxed w3 w2.heap.size 25 (.slice p xs.length c) → Boxed w3 (w2.heap.size + 1) 25 (.slice q ys.length d) →
        Seq Try.prog 32 #[.pointer (some ⟨w2.heap.size, 0, none⟩), .pointer (some ⟨w2.heap.size + 1, 0, none⟩)] encE
          (fun k => k < w0.heap.size ∧ k ≠ w0.heap.size) (fun k => k = w2.heap.size ∨ k = w2.heap.size + 1) (fun l _ _ => l = mrg es fs) (fun pre _ _ => pre <+: mrg es fs) (fun pre x => pre ++ [x] <+: mrg es fs) w3 := by
  obtain ⟨es, hes, hesm⟩ := rdrE_of ha.rdr (ha.cap _ _ _ rfl)
  obtain ⟨fs, hfs, hfsm⟩ := rdrE_of hb.rdr (hb.cap _ _ _ rfl)
  have hel : es.length = xs.length := by rw [← hesm]; simp
  have hfl : fs.length = ys.length := by rw [← hfsm]; simp
  have hrw : rws (mrg es fs) = mrgR xs ys := by unfold rws; rw [mrg_rows, hesm, hfsm]
  have hx := ha.ok.many
  have hy := hb.ok.many
  have hsz := hg.size
  refine ⟨es, fs, hrw, fun x hm => ?_, ?_, fun w3 hg3 h1 h2 => ?_⟩
  · refine ⟨?_, ?_, by rw [← hrw]; exact List.mem_map_of_mem hm⟩
    · rcases mrg_mem es fs x hm with h | h
      · exact hes.2 _ h
      · exact hfs.2 _ h
    · rcases mrg_mem es fs x hm with h | h
      · exact ha.ok.wide _ (by rw [← hesm]; exact List.mem_map_of_mem h)
      · exact hb.ok.wide _ (by rw [← hfsm]; exact List.mem_map_of_mem h)
  · have h1 := mrgR_len xs ys
    rw [← hrw, rws_len] at h1
    omega
  · exact beside_seq w0 w0.heap.size w2.heap.size (w2.heap.size + 1) es fs (.slice p xs.length c) (.slice q ys.length d) w3 (hg.trans hg3) hes hfs h1 h2 (by omega) (by omega) (by omega)
      (fun e he => Nat.le_trans (ha.ok.wide _ (by rw [← hesm]; exact List.mem_map_of_mem he)) (by omega)) (fun e he => Nat.le_trans (hb.ok.wide _ (by rw [← hfsm]; exact List.mem_map_of_mem he)) (by omega)) (by omega) (by omega) (noX_of hes (Nat.le_refl _)) (noX_of hfs (Nat.le_refl _))

theorem fits_ok (xs ps ms : List (List Val)) (va vp vm : Value) (qn an : Int) (w : World) (ha : RowsIn w va xs) (hp : RowsIn w vp ps) (hm : RowsIn w vm ms)
    (h1 : ∀ x ∈ mrgR xs ps, (x.2.1 && x.2.2) = false) (h2 : ∀ x ∈ mrgR xs ms, x.2.1 = true) :
    Calls Try.prog 24 #[va, .agg #[.int .i64 qn, .int .i64 an, vp, vm]] w fun e w' => e = .returned (.int .i64 0) ∧ G w w' := by
  obtain ⟨ap, ac, rfl, hac⟩ := ha.shape
  obtain ⟨pp, pc, rfl, hpc⟩ := hp.shape
  obtain ⟨mp, mc, rfl, hmc⟩ := hm.shape
  have HA := Lib.hid ha
  have HP := Lib.hid hp
  have HM := Lib.hid hm
  have H1 := Lib.hid h1
  have H2 := Lib.hid h2
  clear ha hp hm h1 h2 hac hpc hmc
  refine calls_of_marks Try.func24 rfl ?_
  simp only [Try.ntmps24, List.size_toArray, List.length_cons, List.length_nil, Nat.reduceAdd, Nat.reduceSub, Array.replicate_succ, Array.replicate_zero, List.push_toArray, List.append_toArray, List.nil_append, List.cons_append]
  have hg0 : G w ((w.alloc (.cells #[.int .i64 qn, .int .i64 an, .slice pp ps.length pc, .slice mp ms.length mc] 36)).alloc (.cells #[.int .i64 0] 32)) := ((G.refl w).alloc _).alloc _
  have hb1 : Boxed ((w.alloc (.cells #[.int .i64 qn, .int .i64 an, .slice pp ps.length pc, .slice mp ms.length mc] 36)).alloc (.cells #[.int .i64 0] 32)) (w.heap.size + 1) 32 (.int .i64 0) := boxed_at w [_, _] 1 _ _ rfl
  have hb0 : ((w.alloc (.cells #[.int .i64 qn, .int .i64 an, .slice pp ps.length pc, .slice mp ms.length mc] 36)).alloc (.cells #[.int .i64 0] 32)).heap[w.heap.size]? = some (.cells #[.int .i64 qn, .int .i64 an, .slice pp ps.length pc, .slice mp ms.length mc] 36) := allocs_at w [_, _] 0 _ rfl
  have hs0 : ((w.alloc (.cells #[.int .i64 qn, .int .i64 an, .slice pp ps.length pc, .slice mp ms.length mc] 36)).alloc (.cells #[.int .i64 0] 32)).heap.size = w.heap.size + 2 := by simp
  replace hs0 := Nat.le_of_eq hs0.symm
  go_wp2_with fail
  generalize ((w.alloc (.cells #[.int .i64 qn, .int .i64 an, .slice pp ps.length pc, .slice mp ms.length mc] 36)).alloc (.cells #[.int .i64 0] 32)) = w1 at hg0 hb1 hb0 hs0 ⊢
  refine (beside_any _ _ ap pp xs.length ac ps.length pc rfl rfl w1).mono ?_
  rintro e w3 ⟨rfl, hw3⟩
  have hg13 : G w1 w3 := by rw [hw3]; exact ((G.refl w1).alloc _).alloc _
  have hba : Boxed w3 w1.heap.size 25 (.slice ap xs.length ac) := by rw [hw3]; exact boxed_at w1 [_, _] 0 _ _ rfl
  have hbb : Boxed w3 (w1.heap.size + 1) 25 (.slice pp ps.length pc) := by rw [hw3]; exact boxed_at w1 [_, _] 1 _ _ rfl
  have hsz3 : w3.heap.size = w1.heap.size + 2 := by rw [hw3]; exact allocs_size w1 [_, _]
  replace hsz3 := Nat.le_of_eq hsz3.symm
  clear hw3
  obtain ⟨es, fs, hrw, hmem, hlen, hsq⟩ := beside_in w w1 xs ps ap pp ac pc HA.out HP.out hg0
  have hseq := hsq w3 hg13 hba hbb
  have HMEM := Lib.hid hmem
  clear hmem hsq hrw hlen hba hbb
  have hgw3 := hg0.trans hg13
  have hb13 := hg13.boxed hb1
  have hb03 := (hg13.block (k := w.heap.size) (by omega)).trans hb0
  clear hb1 hb0
  go_wp2_with fail
  refine range_wp2 (gf := 32) (lb := #[.pointer (some ⟨w1.heap.size, 0, none⟩), .pointer (some ⟨w1.heap.size + 1, 0, none⟩)]) (fun x W => W.alloc (.cells #[.bool x.2.1, .bool x.2.2] 55)) (fun x W => (G.refl W).alloc _) rfl (enters_of Try.func32 (by kernel_rfl) rfl)
    hseq (G.refl _) (by rintro k (rfl | rfl) <;> omega) (fun k hk => by omega) (fun _ => rfl)
    (fun pre Fo W => FBox (w.heap.size + 1) 32 (.int .i64 0) Fo W ∧ FBlk w.heap.size (.cells #[.int .i64 qn, .int .i64 an, .slice pp ps.length pc, .slice mp ms.length mc] 36) Fo W ∧ FG w Fo W)
    (fun c pre Fo W => False)
    (fun p => (Stable.box _ _ _).and ((Stable.blk _ _).and (Stable.fg _)))
    (fun c p => Stable.pure _)
    ⟨⟨by rintro (h | h) <;> omega, hb13⟩, ⟨by rintro (h | h) <;> omega, hb03⟩, by rintro k (rfl | rfl) <;> omega, hgw3⟩
    ?a1 ?assign ?body ?done ?stop
  case assign =>
    intro l x W K hK
    simp only [encE]
    gi_wp2
    exact hK
  case body =>
    rintro l pre x Fo W0 W hW0 hW3 hfrW hfo hfl hsz2 hinv hpre
    obtain ⟨⟨rv, rl⟩, f, s⟩ := x
    obtain ⟨-, -, hx⟩ := HMEM.out ((rv, rl), f, s) (hpre.subset (by simp))
    have hfs : (f && s) = false := H1.out _ hx
    simp only at hfrW
    have hne8 : ¬ W0.heap.size = w3.heap.size + 1 := by omega
    have k0 : W.cell? ⟨W0.heap.size, 0, none⟩ = some (.bool f) := hfrW.cell (p := ⟨W0.heap.size, 0, none⟩) hne8 (cell_alloc_at W0 [.bool f, .bool s] 55 (0, 0) 0 _ rfl)
    have k1 : W.cell? ⟨W0.heap.size, 1, none⟩ = some (.bool s) := hfrW.cell (p := ⟨W0.heap.size, 1, none⟩) hne8 (cell_alloc_at W0 [.bool f, .bool s] 55 (0, 0) 1 _ rfl)
    have HI := Lib.hid hinv
    clear hinv hpre hfrW hx
    cases f
    · gi_wp2
      exact ⟨Fr.refl _ _, HI.out⟩
    · cases s
      · gi_wp2
        exact ⟨Fr.refl _ _, HI.out⟩
      · cases hfs
  case stop =>
    intro D cc pre It Fo W W3 hD hDl hIF hFD hIt hFo hpart hfr hff hK
    exact hff.elim
  case done =>
    rintro D l2 It Fo W W3 hD hDl hIF hFD hIt hFo - hfr ⟨⟨hn1, hx1⟩, ⟨hn0, hx0⟩, hfg, hg⟩ hK
    have hc2 : W.cell? ⟨w.heap.size, 3, none⟩ = some (.slice mp ms.length mc) := by unfold World.cell?; rw [hx0]; rfl
    have HX0 := Lib.hid hx0
    have HK := Lib.hid hK
    have hWs : w3.heap.size ≤ W.heap.size := by omega
    clear hx0 hK hseq hfr HMEM
    go_wp2_with fail
    refine (beside_any _ _ ap mp xs.length ac ms.length mc rfl rfl W).mono ?_
    rintro e w4 ⟨rfl, hw4⟩
    have hg24 : G W w4 := by rw [hw4]; exact ((G.refl W).alloc _).alloc _
    have hba : Boxed w4 W.heap.size 25 (.slice ap xs.length ac) := by rw [hw4]; exact boxed_at W [_, _] 0 _ _ rfl
    have hbb : Boxed w4 (W.heap.size + 1) 25 (.slice mp ms.length mc) := by rw [hw4]; exact boxed_at W [_, _] 1 _ _ rfl
    have hsz4 : w4.heap.size = W.heap.size + 2 := by rw [hw4]; exact allocs_size W [_, _]
    replace hsz4 := Nat.le_of_eq hsz4.symm
    clear hw4
    obtain ⟨es, fs, hrw, hmem, hlen, hsq⟩ := beside_in w W xs ms ap mp ac mc HA.out HM.out hg
    have hseq := hsq w4 hg24 hba hbb
    have HMEM := Lib.hid hmem
    clear hmem hsq hrw hlen hba hbb
    have hgw4 := hg.trans hg24
    have hb14 := hg24.boxed hx1
    have hD4 := (hg24.block hDl).trans HK.out
    have hD1 : ¬ D = w.heap.size + 1 := by omega
    clear HK
    go_wp2_with fail
    refine range_wp2 (gf := 32) (lb := #[.pointer (some ⟨W.heap.size, 0, none⟩), .pointer (some ⟨W.heap.size + 1, 0, none⟩)]) (fun x W => W.alloc (.cells #[.bool x.2.1, .bool x.2.2] 55)) (fun x W => (G.refl W).alloc _) rfl (enters_of Try.func32 (by kernel_rfl) rfl)
      hseq (G.refl _) (by rintro k (rfl | rfl) <;> omega) (fun k hk => by omega) (fun _ => rfl)
      (fun pre Fo W => FBox (w.heap.size + 1) 32 (.int .i64 0) Fo W ∧ FBlk D (.deferred (some [])) Fo W ∧ FG w Fo W)
      (fun c pre Fo W => False)
      (fun p => (Stable.box _ _ _).and ((Stable.blk _ _).and (Stable.fg _)))
      (fun c p => Stable.pure _)
      ⟨⟨by rintro (h | h) <;> omega, hb14⟩, ⟨by rintro (h | h) <;> omega, hD4⟩, by rintro k (rfl | rfl) <;> omega, hgw4⟩
      ?b1 ?assign ?body ?done ?stop
    case assign =>
      intro l x W K hK
      simp only [encE]
      gi_wp2
      exact hK
    case body =>
      rintro l pre x Fo' W0 W' hW0 hW3 hfrW hfo hfl hsz2 hinv hpre
      obtain ⟨⟨rv, rl⟩, f, s⟩ := x
      obtain ⟨-, -, hx⟩ := HMEM.out ((rv, rl), f, s) (hpre.subset (by simp))
      have hfs : f = true := H2.out _ hx
      simp only at hfrW
      have hne8 : ¬ W0.heap.size = w4.heap.size + 1 := by omega
      have k0 : W'.cell? ⟨W0.heap.size, 0, none⟩ = some (.bool f) := hfrW.cell (p := ⟨W0.heap.size, 0, none⟩) hne8 (cell_alloc_at W0 [.bool f, .bool s] 55 (0, 0) 0 _ rfl)
      have HI := Lib.hid hinv
      clear hinv hpre hfrW hx
      cases f
      · cases hfs
      · gi_wp2
        exact ⟨Fr.refl _ _, HI.out⟩
    case stop =>
      intro D cc pre It Fo W W3 hD hDl hIF hFD hIt hFo hpart hfr hff hK
      exact hff.elim
    case done =>
      rintro D2 l2 It' Fo' W' W3' hD' hDl' hIF' hFD' hIt' hFo' - hfr' ⟨⟨hn1', hx1'⟩, ⟨hn0', hx0'⟩, hfg', hg'⟩ hK'
      have hc1 := hx1'.cell
      have hf1 := hx1'.frozen
      have HK1 := Lib.hid hx0'
      have HK2 := Lib.hid hK'
      clear hx0' hK' hseq hfr'
      go_wp2_with fail
      have x1 := hx1'.set (.int .i64 0)
      have hDD : D2 ≠ D := by omega
      have k2 := (Below.heap_setCell W' ⟨w.heap.size + 1, 0, none⟩ (.int .i64 0) D2 (by simp; omega)).trans HK2.out
      have k1 := (Below.heap_setCell W' ⟨w.heap.size + 1, 0, none⟩ (.int .i64 0) D (by simp; omega)).trans HK1.out
      have hg5 : G w (W'.setCell ⟨w.heap.size + 1, 0, none⟩ (.int .i64 0)) := hg'.setCell (by simp) _
      generalize (W'.setCell ⟨w.heap.size + 1, 0, none⟩ (.int .i64 0)) = W5 at x1 k1 k2 hg5 ⊢
      have b0 := boxed_putObj (o := .deferred none) x1 (show w.heap.size + 1 ≠ D2 by omega)
      have b1 := boxed_putObj (o := .deferred none) b0 (show w.heap.size + 1 ≠ D by omega)
      refine leave_mark (D := D2) k2 (leave_mark (D := D) ((World.putObj_heap_other (Ne.symm hDD)).trans k1) (leave_nil (v := .int .i64 0) (by simp [results, Try.results24, go_sem, b1.cell]) ⟨rfl, (hg5.putObj (by omega) _).putObj (by omega) _⟩))
end Go.Proofs.Ythhjioehkgbphaa
