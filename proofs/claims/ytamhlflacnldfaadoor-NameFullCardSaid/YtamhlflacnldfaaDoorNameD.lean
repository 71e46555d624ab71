/- texts' numbers -/
import Derived.Test.YtamhlflacnldfaaDoorNameC
import Derived.Test.YtamhlflacnldfaaDoorKitS
import Derived.Sort.QuietIn
import Derived.StillTailTactics
import Derived.Deep.RegionHeld3
import Derived.Deep.AppendLies
namespace Go.Proofs.YtamhlflacnldfaaDoor
set_option linter.unusedVariables false
set_option linter.unusedSimpArgs false
open Go.RowKit Go.Shelf Go.Maps
attribute [local go_sem] Oper.semAt_some

theorem info3 : (Tryd.prog.info? 3).map (fun i => (i.zero, i.size, i.bytes)) = some (some (.int .i64 0), 1, 8) := by kernel_rfl
theorem info9 : (Tryd.prog.info? 9).map (fun i => (i.zero, i.size, i.bytes)) = some (some (.string ⟨#[]⟩), 1, 16) := by kernel_rfl
theorem fresh_any (B : Nat) (v : Value) (p : Option Addr) (n c : Nat) (hv : v = .slice p n c) (w : World) : Calls Tryd.prog 15 #[.pointer (some ⟨B, 0, none⟩), v] w fun e w' =>
    e = .returned (.func (.func 19) #[] #[.pointer (some ⟨w.heap.size + 1, 0, none⟩), .pointer (some ⟨w.heap.size, 0, none⟩)]) ∧ w' = (w.alloc (.cells #[.pointer (some ⟨B, 0, none⟩)] 23)).alloc (.cells #[v] 25) := by
  subst hv
  go_enter Tryd.func15, Tryd.ntmps15
  go_wp2
  go_ret
  exact ⟨rfl, rfl⟩
/-- what comes of texts in a book -/
def OfPost (S : Nat → Prop) (w : World) (B : Nat) (L ss : List ByteArray) : Ending → World → Prop := fun e w' =>
  (65536 < L.length + (fresh L ss).length ∧ e = .returned (.tuple #[.slice none 0 0, .int .i64 3]) ∧ G w w') ∨
  (L.length + (fresh L ss).length ≤ 65536 ∧ ∃ out S', e = .returned (.tuple #[out, .int .i64 0]) ∧ w'.ownsRow w.heap.size 3 1 out ss.length (ints (ss.map (num (L ++ fresh L ss)))) ∧ Bk S' w' B (L ++ fresh L ss) ∧
    (∀ k, S' k → S k ∨ w.heap.size ≤ k) ∧ (∀ g, out.ownBlock = some g → ¬ S' g) ∧ Fr S w w')

set_option maxHeartbeats 400000 in
theorem of_any (S : Nat → Prop) (B : Nat) (L ss : List ByteArray) (v : Value) (w : World) (hv : Rdr w 1 v ss.length (strs ss)) (hb : Bk S w B L) (hvS : 0 < ss.length → ∀ g, v.ownBlock = some g → ¬ S g) (hss : ∀ s ∈ ss, s.size ≤ maxLen)
    (hn : ss.length ≤ 1000000) (hL : L.length ≤ 65536) : Calls Tryd.prog 7 #[.pointer (some ⟨B, 0, none⟩), v] w (OfPost S w B L ss) := by
  obtain ⟨p, c, rfl, hl, -⟩ := hv.at
  have hn' : ss.length ≤ maxLen := by unfold maxLen; omega
  have HV := Lib.hid hv
  have HB := Lib.hid hb
  have hbc : ∃ bm, w.cell? ⟨B, 0, none⟩ = some (.map (some bm)) := by
    obtain ⟨bm, bv, D, base, h1, -⟩ := hb
    exact ⟨bm, (bk_cells h1).1⟩
  obtain ⟨bm, c0⟩ := hbc
  have hBlt := World.block_lt_of_cell? w _ c0
  have HSS := Lib.hid hss
  have HVS := Lib.hid hvS
  have HVL := Lib.hid (fun h => hv.lt h (by omega) : 0 < ss.length → ∀ g, (Value.slice p ss.length c).ownBlock = some g → g < w.heap.size)
  clear hv hb hl hss hvS
  refine calls_of_marks Tryd.func7 rfl ?_
  simp only [Tryd.ntmps7, List.size_toArray, List.length_cons, List.length_nil, Nat.reduceAdd, Nat.reduceSub, Array.replicate_succ, Array.replicate_zero, List.push_toArray, List.append_toArray, List.nil_append, List.cons_append]
  go_wp2_with fail
  refine (made_yes B bm _ (((((G.refl w).alloc _).alloc _).alloc _).cell c0)).mono ?_
  rintro e w' ⟨rfl, rfl⟩
  go_wp2_with fail
  refine (fresh_any B _ p ss.length c rfl _).mono ?_
  rintro e w2 ⟨rfl, hw2⟩
  simp only [World.size_alloc] at hw2 ⊢
  have hw3 : w2 = allocs w [_, _, _, _, _, _] := hw2
  have hgw : G w w2 := by rw [hw3]; exact allocs_g _ _
  have hb0 : Boxed w2 w.heap.size 23 (.pointer (some ⟨B, 0, none⟩)) := by rw [hw3]; exact boxed_at _ _ 0 _ _ rfl
  have hb1 : Boxed w2 (w.heap.size + 1) 27 (.slice none 0 0) := by rw [hw3]; exact boxed_at _ _ 1 _ _ rfl
  have hb2 : Boxed w2 (w.heap.size + 1 + 1) 28 (.int .i64 0) := by rw [hw3]; exact boxed_at _ _ 2 _ _ rfl
  have hb3 : Boxed w2 (w.heap.size + 1 + 1 + 1) 25 (.slice none 0 0) := by rw [hw3]; exact boxed_at _ _ 3 _ _ rfl
  have hb4 : Boxed w2 (w.heap.size + 1 + 1 + 1 + 1) 23 (.pointer (some ⟨B, 0, none⟩)) := by rw [hw3]; exact boxed_at _ _ 4 _ _ rfl
  have hb5 : Boxed w2 (w.heap.size + 1 + 1 + 1 + 1 + 1) 25 (.slice p ss.length c) := by rw [hw3]; exact boxed_at _ _ 5 _ _ rfl
  have hsz : w2.heap.size = w.heap.size + 6 := by rw [hw3]; exact allocs_size _ _
  clear hw3
  clear hw2
  go_wp2_with fail
  have hltS : ∀ q, S q → q < w.heap.size := fun q hq => HB.out.ltS hq
  have hltV : 0 < ss.length → ∀ g, (Value.slice p ss.length c).ownBlock = some g → g < w.heap.size := HVL.out
  have hro : ∀ k, (k = w.heap.size + 1 + 1 + 1 + 1 + 1 ∨ k = w.heap.size + 1 + 1 + 1 + 1 ∨ S k ∨ (0 < ss.length ∧ (Value.slice p ss.length c).ownBlock = some k)) → k < w2.heap.size := by
    rintro k (rfl | rfl | h | h)
    · omega
    · omega
    · have := hltS k h; omega
    · have := hltV h.1 k h.2; omega
  have HNR := Lib.hid (by
    rintro k h1 h2 (rfl | rfl | h | h)
    · omega
    · omega
    · have := hltS k h; omega
    · have := hltV h.1 k h.2; omega
    : ∀ k, w.heap.size ≤ k → k ≤ w.heap.size + 3 → ¬ (k = w.heap.size + 1 + 1 + 1 + 1 + 1 ∨ k = w.heap.size + 1 + 1 + 1 + 1 ∨ S k ∨ (0 < ss.length ∧ (Value.slice p ss.length c).ownBlock = some k)))
  have HLS := Lib.hid hltS
  have HLV := Lib.hid hltV
  have HRO := Lib.hid hro
  clear hltS hltV hro
  obtain ⟨i0, hi, hz0, hz1, hz2⟩ := info_parts info9
  refine range_wp (gf := 19) (lb := #[.pointer (some ⟨w.heap.size + 1 + 1 + 1 + 1 + 1, 0, none⟩), .pointer (some ⟨w.heap.size + 1 + 1 + 1 + 1, 0, none⟩)]) rfl (enters_of Tryd.func19 (by kernel_rfl) rfl)
    (fresh_seq S B (w.heap.size + 1 + 1 + 1 + 1 + 1) (w.heap.size + 1 + 1 + 1 + 1) L ss _ w2 hb5 hb4 (HV.out.g hgw) (HB.out.g hgw) HSS.out hn') (G.refl _) (fun _ h => h.elim) HRO.out (fun _ => rfl)
    (fun pre Fo W => ∃ mv, (L.length + pre.length ≤ 65536) ∧ FBox w.heap.size 23 (.pointer (some ⟨B, 0, none⟩)) Fo W ∧ FBox (w.heap.size + 1) 27 (.slice none 0 0) Fo W ∧ FBox (w.heap.size + 1 + 1) 28 (.int .i64 0) Fo W ∧ FBox (w.heap.size + 1 + 1 + 1) 25 mv Fo W ∧
      FRow w2.heap.size 9 1 mv pre.length (strs pre) Fo W ∧ FG w Fo W)
    (fun c pre Fo W => c = .ret ∧ (65536 < L.length + pre.length) ∧ FBox (w.heap.size + 1) 27 (.slice none 0 0) Fo W ∧ FBox (w.heap.size + 1 + 1) 28 (.int .i64 3) Fo W ∧ FG w Fo W)
    (fun p => Stable.ex fun v => (Stable.pure _).and ((Stable.box _ _ _).and ((Stable.box _ _ _).and ((Stable.box _ _ _).and ((Stable.box _ _ _).and ((Stable.row _ _ _ _ _ _).and (Stable.fg _)))))))
    (fun c p => (Stable.pure _).and ((Stable.pure _).and ((Stable.box _ _ _).and ((Stable.box _ _ _).and (Stable.fg _)))))
    ⟨.slice none 0 0, by simp; omega, ⟨id, hb0⟩, ⟨id, hb1⟩, ⟨id, hb2⟩, ⟨id, hb3⟩, ⟨fun _ _ => id, World.ownsRow_nil _ _ _ _⟩, fun _ h => h.elim, hgw⟩
    ?a1 ?assign ?body ?done ?stop
  case assign =>
    intro l x W K hK
    gi_wp2
    exact hK
  case body =>
    rintro l pre x Fo W hfo hfl hsz2 ⟨mv, hle, ⟨hn0, hx0⟩, ⟨hn1, hx1⟩, ⟨hn2, hx2⟩, ⟨hn3, hx3⟩, ⟨hnr, hrow⟩, hfg, hg⟩ ⟨hpre, hxs⟩
    obtain ⟨bm', bv, bD, bbase, hB1, -, hB3, -⟩ := HB.out.g hg
    obtain ⟨-, cB, -⟩ := bk_cells hB1
    obtain ⟨bp, bc, rfl⟩ := ownsRow_shape hB3
    obtain ⟨mp, mc, hmv⟩ := ownsRow_shape hrow
    subst hmv
    have hc0 := hx0.cell
    have hc1 := hx1.cell
    have hf1 := hx1.frozen
    have hc2 := hx2.cell
    have hf2 := hx2.frozen
    have hc3 := hx3.cell
    have hf3 := hx3.frozen
    have HH := Lib.hid hpre
    have HB1 := Lib.hid hB1
    have HB3 := Lib.hid hB3
    clear hpre hB1 hB3
    by_cases hlim : (65536 : Int) ≤ (L.length : Int) + (pre.length : Int)
    · gi_wp2
      refine region_quiet_round (by kernel_rfl) (by kernel_rfl) (by kernel_rfl) ?_
      repeat (go_big_quiet_step (fail))
      refine wpQuiet_nil ?_
      rintro _ ⟨nq, rfl⟩
      gi_wp2
      have n1 := HNR.out (w.heap.size + 1) (by omega) (by omega)
      have n2 := HNR.out (w.heap.size + 1 + 1) (by omega) (by omega)
      refine ⟨(((Fr.refl _ W).drewN nq).setCell (p := ⟨w.heap.size + 1, 0, none⟩) (.inl (fun h => h.elim hn1 n1)) _).setCell (p := ⟨w.heap.size + 1 + 1, 0, none⟩) (.inl (fun h => h.elim hn2 n2)) _, rfl, by simp; omega, ?_, ?_, ?_⟩
      · exact (FBox.set _ ⟨hn1, hx1⟩).other _ (by omega)
      · exact (FBox.other (v := .int .i64 0) _ ⟨hn2, hx2⟩ (by omega)).set _
      · exact ((FG.g ⟨hfg, hg⟩ ((G.refl W).drewN nq)).setCell (p := ⟨w.heap.size + 1, 0, none⟩) (by simp) _).setCell (p := ⟨w.heap.size + 1 + 1, 0, none⟩) (by simp; omega) _
    · have hlim' : decide ((65536 : Int) ≤ (L.length : Int) + (pre.length : Int)) = false := by simpa using hlim
      gi_wp2
      refine region_quiet_round (by kernel_rfl) (by kernel_rfl) (by kernel_rfl) ?_
      repeat (go_big_quiet_step (fail))
      refine wpQuiet_nil ?_
      rintro _ ⟨nq, rfl⟩
      have HLM := Lib.hid hlim
      clear hlim hlim'
      gi_wp2_with (gi_at_builtin; refine wpListIn_append2 _ rfl _ _ 25 rfl w2.heap.size 9 i0 (.string ⟨#[]⟩) 1 16 Tryd.underlying25 hi hz0 hz1 hz2 rfl (by decide) (.slice mp pre.length mc) pre.length (strs pre) rfl ((ownsRow_drewN hrow nq).alloc _) ⟨W.heap.size, 0, none⟩ 1 1 [.string x] rfl rfl (cell_one_new _ _ _) (by simp [Value.oneCell']) (by unfold maxLen; omega) (by omega) (by simp; omega) ?_; intro v' w1 hown' hgrow _ hgb; obtain ⟨g', cap', rfl⟩ := ownsRow_succ hown'; obtain ⟨hr', hf'⟩ := FRow.appended (W := W.drewN nq) ⟨hnr, ownsRow_drewN hrow nq⟩ hown' hgrow hgb hfl; have ho : ∀ B, B < w2.heap.size → (Value.slice mp pre.length mc).ownBlock ≠ some B := fun B hB e => (by have := (hrow.lt B e).1; omega); have hx3' := hf'.boxed hx3 (ho _ (by omega)); have hx2' := hf'.boxed hx2 (ho _ (by omega)); have hx1' := hf'.boxed hx1 (ho _ (by omega)); have hx0' := hf'.boxed hx0 (ho _ (by omega)); have hc3' := hx3'.cell; have hf3' := hx3'.frozen; clear hgb ho)
      have hf2 : Fr (fun k => (Value.slice mp pre.length mc).ownBlock = some k) W w1 := (((G.refl W).drewN nq).fr _).trans hf' (fun _ _ h => h)
      have hFr := hf2.ofRow (Ro := _) ⟨hnr, hrow⟩ HRO.out
      have hG' : FG w Fo w1 := ⟨hfg, (((hg.drewN nq).alloc (.cells #[.string x] 9)).grown hgrow (fun k hk => by have := (hrow.lt k hk).1; omega))⟩
      have n3 := HNR.out (w.heap.size + 1 + 1 + 1) (by omega) (by omega)
      have e1 : strs (pre ++ [x]) = strs pre ++ [.string x] := by simp [strs]
      have e2 : (pre ++ [x]).length = pre.length + 1 := by simp
      refine ⟨hFr.setCell (p := ⟨w.heap.size + 1 + 1 + 1, 0, none⟩) (.inl (fun h => h.elim hn3 n3)) _, .slice (some ⟨g', 0, none⟩) (pre.length + 1) cap', by have := HLM.out; rw [e2]; omega, ?_, ?_, ?_, ?_, ?_, ?_⟩
      · exact FBox.other _ ⟨hn0, hx0'⟩ (by omega)
      · exact FBox.other _ ⟨hn1, hx1'⟩ (by omega)
      · exact FBox.other _ ⟨hn2, hx2'⟩ (by omega)
      · exact FBox.set _ ⟨hn3, hx3'⟩
      · rw [e1, e2]; exact hr'.setCell (p := ⟨w.heap.size + 1 + 1 + 1, 0, none⟩) (by simp; omega) _
      · exact hG'.setCell (p := ⟨w.heap.size + 1 + 1 + 1, 0, none⟩) (by simp; omega) _
  case stop =>
    rintro D c pre It Fo W W3 hD hDl hIF hFD hIt hFo hpart hfr ⟨rfl, hlt, ⟨hn1, hx1⟩, ⟨hn2, hx2⟩, hfg, hg⟩ hK
    have hc1 := hx1.cell
    have hc2 := hx2.cell
    have hle := hpart.length_le
    go_wp2_with fail
    have b1 := boxed_putObj (o := .deferred none) hx1 (show w.heap.size + 1 ≠ D by omega)
    have b2 := boxed_putObj (o := .deferred none) hx2 (show w.heap.size + 1 + 1 ≠ D by omega)
    refine leave_mark (D := D) hK (leave_nil (v := .tuple #[.slice none 0 0, .int .i64 3]) (by simp [results, Tryd.results7, go_sem, b1.cell, b2.cell]) (.inl ⟨by omega, rfl, hg.putObj (by omega) _⟩))
  case done =>
    rintro D xs It Fo W W3 hD hDl hIF hFD hIt hFo rfl hfr ⟨mv, hle, ⟨hn0, hx0⟩, ⟨hn1, hx1⟩, ⟨hn2, hx2⟩, ⟨hn3, hx3⟩, ⟨hnr, hrow⟩, hfg, hg⟩ hK
    obtain ⟨mp, mc, hmv⟩ := ownsRow_shape hrow
    subst hmv
    have hc0 := hx0.cell
    have hc3 := hx3.cell
    obtain ⟨m, hm⟩ : ∃ m, m = (fresh L ss).length := ⟨_, rfl⟩
    have hmr := rdr_of_owns hrow
    have HRW := Lib.hid hrow
    rw [← hm] at hx3 hc3 hle hmr
    have HM := Lib.hid hm
    have HK := Lib.hid hK
    have HMR := Lib.hid hmr
    clear hm hK hrow hnr hmr
    have hltF : ∀ q, S q → q < w.heap.size := HLS.out
    have hB0 : Bk S W B L := HB.out.g hg
    have HSW := Lib.hid (fun q hq => by have := HLS.out q hq; have := hg.size; omega : ∀ q, S q → ¬ W.heap.size ≤ q)
    clear hltF
    go_wp2_with fail
    go_loopw [34] (fun i wr => ∃ (k : Nat) (S' : Nat → Prop), k ≤ m ∧ i = .int .i64 k ∧ Bk S' wr B (L ++ (fresh L ss).take k) ∧ Hid (∀ q, S' q → S q ∨ W.heap.size ≤ q) ∧ Fr S W wr) (fun i _ => m - (intOf i).toNat)
    case atStart => exact ⟨0, S, by omega, rfl, by simpa using hB0, (fun q hq => .inl hq : ∀ q, S q → S q ∨ W.heap.size ≤ q), Fr.refl _ _⟩
    case round =>
      obtain ⟨k, S', hk, rfl, hBk, HS', hFr⟩ := hrel
      have hFsz := hFr.size
      have hc0' := hFr.cell (p := ⟨w.heap.size, 0, none⟩) (fun (h : S w.heap.size) => by have := HLS.out _ h; omega) hc0
      by_cases hlt : k < m
      · obtain ⟨b, o, rfl, hcell⟩ := HMR.out.one (by omega)
        obtain ⟨s, hs⟩ : ∃ s, (fresh L ss)[k]? = some s := ⟨(fresh L ss)[k]'(by have := HM.out; omega), List.getElem?_eq_getElem _⟩
        have cs := hFr.cell (p := ⟨b, o + k, none⟩) (fun (h : S b) => by have := HLS.out _ h; have := (HRW.out.lt b rfl).1; omega) (hcell k _ (strs_get hs))
        have htk : (fresh L ss).take (k + 1) = (fresh L ss).take k ++ [s] := by rw [List.take_add_one, hs]; rfl
        have HTK := Lib.hid htk
        have HNT := Lib.hid (take_fresh hs)
        have HSS1 := Lib.hid (fresh_mem (List.mem_of_getElem? hs))
        have hxs : s.size ≤ maxLen := HSS.out s (HSS1.out).1
        clear hs hcell htk
        have hlk : (L ++ (fresh L ss).take k).length = L.length + k := by rw [List.length_append, List.length_take]; have := HM.out; omega
        obtain ⟨Lk, hLk⟩ : ∃ Lk, Lk = L ++ (fresh L ss).take k := ⟨_, rfl⟩
        rw [← hLk] at hBk hlk
        have HLK := Lib.hid hLk
        have hLb : Lk.length < 65536 := by omega
        have HLL := Lib.hid hlk
        clear hLk hlk
        obtain ⟨bm1, bv, bD, bbase, hB1, hB2, hB3, hB4, hB5, hB6, hB7, hB8, hB9, hB10, hB11⟩ := hBk
        obtain ⟨cB0, cB1, fB0, fB1⟩ := bk_cells hB1
        obtain ⟨bp, bc, hbv⟩ := ownsRow_shape hB3
        subst hbv
        go_upto_region 12 with fail
        go_still_tail 10, (by kernel_rfl)
        change wpList _ _ _ _ _ wr.drew
        refine wpList_mapUpdate_own _ rfl _ _ _ 36 rfl 9 3 lawS Tryd.underlying36 _ bm1 Lk.length bD rfl hB2.drew (by unfold maxLen; omega) (.string s) (.int .i64 Lk.length) _ rfl rfl (keyS_of hxs) (.lit (.int .i64 Lk.length)) [] (plainElem_int Tryd.underlying3 (by simp [Lit.wf, IntKind.min, IntKind.max, IntKind.signed, IntKind.bits]; omega)) ?_
        intro w1 hM1 hgrow1
        have hf1 : Fr (fun q => q = bm1) wr w1 := (((G.drew (G.refl wr)).fr _).trans (grownBy_fr hgrow1) (fun _ _ h => (Option.some.inj h).symm))
        have hB1' : w1.heap[B]? = some (.cells #[.map (some bm1), .slice bp Lk.length bc] 38 (0, 0)) := (hf1.block B (Array.getElem?_eq_some_iff.1 hB1).1 (Ne.symm hB10)).trans hB1
        have hB3' : w1.ownsRow bbase 9 1 (.slice bp Lk.length bc) Lk.length (strs Lk) := hf1.ownsRow hB3 (fun g hg h => (hB9 g hg).2.2 h)
        have hf1S : Fr S' wr w1 := hf1.mono (fun i e => by subst e; exact hB8)
        have hBlt1 : w.heap.size ≠ bm1 := fun e => (HS'.out bm1 hB8).elim (fun h => by have := HLS.out _ h; omega) (fun h => by omega)
        have c01 := hf1.cell (p := ⟨w.heap.size, 0, none⟩) hBlt1 hc0'
        obtain ⟨cB0', cB1', fB0', fB1'⟩ := bk_cells hB1'
        have H3' := Lib.hid (ownsRow_mono hB3' (Nat.zero_le bbase))
        have hw1B := World.block_lt_of_cell? w1 _ cB1'
        have hw1w := World.block_lt_of_cell? w1 _ c01
        have hbS : ∀ g, (Value.slice bp Lk.length bc).ownBlock = some g → S' g := fun g hg => (hB9 g hg).1
        have ag1 : (Value.slice bp Lk.length bc).ownBlock ≠ some B := fun e => (hB9 B e).2.1 rfl
        have ag2 : (Value.slice bp Lk.length bc).ownBlock ≠ some w.heap.size := fun e => (HS'.out _ (hbS _ e)).elim (fun h => by have := HLS.out _ h; omega) (fun h => by omega)
        have HBS := Lib.hid hbS
        clear hbS
        have H1' := Lib.hid hB1'
        have HM1 := Lib.hid hM1
        have hBD := hB2.isMap
        have hinL : inL s Lk = false := by
          rw [HLK.out]; simp only [inL, List.any_append, Bool.or_eq_false_iff]
          exact ⟨(HSS1.out).2, HNT.out⟩
        have HI := Lib.hid hinL
        clear hinL
        clear hB1 hB2 hB3 cB0 cB1 fB0 fB1 hc0' hB3' hB1' hM1 hgrow1
        go_wp2_with fail
        have hBw : w.heap.size ≠ B := by omega
        have T1 : ∀ o, ((w1.alloc o).drew).frozen? ⟨B, 1, none⟩ = false := fun o => ((((G.refl w1).alloc o).drew).frozen (p := ⟨B, 1, none⟩) hw1B).trans fB1'
        refine region_hl (fun w' => w'.cell? ⟨w.heap.size, 0, none⟩ = some (.pointer (some ⟨B, 0, none⟩)) ∧ w'.cell? ⟨B, 1, none⟩ = some (.slice bp Lk.length bc)) 10 11 (by kernel_rfl) rfl ?_
        simp only [List.replicate_succ, List.replicate_zero]
        have HS0 : (fun w' : World => w'.cell? ⟨w.heap.size, 0, none⟩ = some (.pointer (some ⟨B, 0, none⟩)) ∧ w'.cell? ⟨B, 1, none⟩ = some (.slice bp Lk.length bc)) w1.drew := ⟨c01, cB1'⟩
        refine hl_take_np 0 (by kernel_rfl) (by kernel_rfl) rfl (by kernel_rfl) HS0 (v := ?_) ?_ ?_
        rotate_left
        · (rintro x ⟨s1, s2⟩; go_simp; try rfl)
        simp only [Act.put, List.setIfInBounds_toArray, List.set_cons_zero, List.set_cons_succ]
        refine hl_take_np 1 (by kernel_rfl) (by kernel_rfl) rfl (by kernel_rfl) HS0 (v := ?_) ?_ ?_
        rotate_left
        · (rintro x ⟨s1, s2⟩; go_simp; try rfl)
        simp only [Act.put, List.setIfInBounds_toArray, List.set_cons_zero, List.set_cons_succ]
        refine hl_take_np 2 (by kernel_rfl) (by kernel_rfl) rfl (by kernel_rfl) HS0 (v := ?_) ?_ ?_
        rotate_left
        · (rintro x ⟨s1, s2⟩; go_simp; try rfl)
        simp only [Act.put, List.setIfInBounds_toArray, List.set_cons_zero, List.set_cons_succ]
        refine hl_take_np 3 (by kernel_rfl) (by kernel_rfl) rfl (by kernel_rfl) HS0 (v := ?_) ?_ ?_
        rotate_left
        · (rintro x ⟨s1, s2⟩; go_simp; try rfl)
        simp only [Act.put, List.setIfInBounds_toArray, List.set_cons_zero, List.set_cons_succ]
        refine hl_take_np 4 (by kernel_rfl) (by kernel_rfl) rfl (by kernel_rfl) HS0 (v := ?_) ?_ ?_
        rotate_left
        · (rintro x ⟨s1, s2⟩; go_simp; try rfl)
        simp only [Act.put, List.setIfInBounds_toArray, List.set_cons_zero, List.set_cons_succ]
        refine hl_take_np 5 (by kernel_rfl) (by kernel_rfl) rfl (by kernel_rfl) HS0 (v := ?_) ?_ ?_
        rotate_left
        · (rintro x ⟨s1, s2⟩; go_simp; try rfl)
        simp only [Act.put, List.setIfInBounds_toArray, List.set_cons_zero, List.set_cons_succ]
        refine hl_step 6 (by kernel_rfl) rfl ?_
        go_wp2_with fail
        show _ ∧ _
        refine ⟨(by first | exact ⟨(((G.refl w1).alloc _).drew).cell c01, (((G.refl w1).alloc _).drew).cell cB1'⟩ | exact fun _ => ⟨(((G.refl w1).alloc _).drew).cell c01, (((G.refl w1).alloc _).drew).cell cB1'⟩), ?_⟩
        refine hl_step 7 (by kernel_rfl) rfl ?_
        refine wpList_append_lies _ rfl _ _ 25 rfl 0 9 i0 (.string ⟨#[]⟩) 1 16 Tryd.underlying25 hi hz0 hz1 hz2 rfl (by omega) (.slice bp Lk.length bc) Lk.length (strs Lk) rfl ((H3'.out.alloc _).drew)
          ⟨w1.heap.size, 0, none⟩ 1 1 [.string s] rfl rfl (World.news_of_block (cs := #[.string s]) (t := 9) (fr := (0, 0)) (heap_alloc_new w1 _)) (by simp [Value.oneCell'])
          (by omega) (by unfold maxLen; omega) (by omega) (Nat.zero_le _) (w1.heap.size + 1) (by simp) ?_
        intro gg cap w3 hown3 hgrow3 hat hlt3
        have hfr3 : Fr (fun q => (Value.slice bp Lk.length bc).ownBlock = some q) w1 w3 := (((((G.refl w1).alloc _).drew).fr _).trans (grownBy_fr hgrow3) (fun _ _ h => h))
        have c03 := hfr3.cell (p := ⟨w.heap.size, 0, none⟩) ag2 c01
        have cB3 := hfr3.cell (p := ⟨B, 1, none⟩) ag1 cB1'
        have fB3 : w3.frozen? ⟨B, 1, none⟩ = false := (World.frozen?_of_block (hfr3.block B hw1B ag1)).trans fB1'
        show _ ∧ _
        refine ⟨fun _ => ⟨c03, cB3⟩, ?_⟩
        refine hl_step 8 (by kernel_rfl) rfl ?_
        go_wp2_with fail
        show _ ∧ _
        refine ⟨(by first | exact ⟨c03, cB3⟩ | exact fun _ => ⟨c03, cB3⟩), ?_⟩
        refine hl_step 9 (by kernel_rfl) rfl ?_
        go_wp2_with fail
        show _ ∧ _
        refine ⟨(by first | exact ⟨c03, cB3⟩ | exact fun _ => ⟨c03, cB3⟩), ?_⟩
        refine hl_step 10 (by kernel_rfl) rfl ?_
        go_wp2_with fail
        show _ ∧ _
        refine ⟨(by first | exact fun h => absurd rfl h | trivial), ?_⟩
        refine hl_done (by kernel_rfl) ?_ _
        refine NoPanic.normal ?_
        go_wp2_with fail
        go_roundw
        case rel =>
          refine ⟨k + 1, fun q => S' q ∨ q = gg, by omega, by go_num, ?_, ?_, ?_⟩
          · rw [HTK.out, ← List.append_assoc, ← HLK.out]
            exact bk_put H1'.out HM1.out hB4 hBD hB5 hB6 hxs HI.out hown3 hfr3 (hat.imp id (fun h => by omega)) hlt3 hB7 hB8 hB9 hB10 (fun q hq => Nat.lt_of_lt_of_le (hB11 q hq) hf1.size)
          · rintro q (hq | rfl)
            · exact HS'.out q hq
            · rcases hat with h | h
              · exact HS'.out q (hB9 q h).1
              · exact .inr (by have := hf1.size; omega)
          · have hSo : ∀ q, q < W.heap.size → S' q → S q := fun q hq hs => (HS'.out q hs).elim id (fun h => by omega)
            refine ((hFr.trans (hf1S) hSo).trans hfr3 (fun q hq e => hSo q hq (hB9 q e).1)).setCell (p := ⟨B, 1, none⟩) (.inl ?_) _
            exact hSo B (by have := hg.size; omega) hB7
        case measure => simp [intOf]; omega
      · obtain rfl : k = m := by omega
        rw [show (fresh L ss).take k = fresh L ss from List.take_of_length_le (by have := HM.out; omega)] at hBk
        obtain ⟨wo, rfl⟩ : ∃ wo : World, wo = wr := ⟨_, rfl⟩
        obtain ⟨L', hL'⟩ : ∃ L', L' = L ++ fresh L ss := ⟨_, rfl⟩
        rw [← hL'] at hBk
        have HL' := Lib.hid hL'
        clear hL'
        have hcell1 : wo.cell? ⟨w.heap.size + 1, 0, none⟩ = some (.slice none 0 0) := hFr.cell (fun (h : S (w.heap.size + 1)) => by have := HLS.out _ h; omega) hx1.cell
        have hbx1 : Boxed wo (w.heap.size + 1) 27 (.slice none 0 0) := hFr.boxed hx1 (fun h => by have := HLS.out _ h; omega)
        clear hcell1
        go_wp2_with fail
        go_loopw [61] (fun i wr => ∃ (k : Nat) (out : Value), k ≤ ss.length ∧ i = .int .i64 k ∧ Boxed wr (w.heap.size + 1) 27 out ∧ wr.ownsRow wo.heap.size 3 1 out k (ints ((ss.take k).map (num L'))) ∧ Fr (fun q => q = w.heap.size + 1) wo wr) (fun i _ => ss.length - (intOf i).toNat)
        case atStart => exact ⟨0, .slice none 0 0, by omega, rfl, hbx1, by simpa [ints] using World.ownsRow_nil _ _ _ _, Fr.refl _ _⟩
        case round =>
          obtain ⟨j, out, hj, rfl, hbo, hor, hFr2⟩ := hrel
          by_cases hlt2 : j < ss.length
          · have ch0 := hFr2.cell (p := ⟨w.heap.size, 0, none⟩) (by simp) (hFr.cell (p := ⟨w.heap.size, 0, none⟩) (fun (h : S w.heap.size) => by have := HLS.out _ h; omega) hc0)
            obtain ⟨b, o, rfl, hcell⟩ := HV.out.one (by omega)
            obtain ⟨s, hs⟩ : ∃ s, ss[j]? = some s := ⟨ss[j]'hlt2, List.getElem?_eq_getElem _⟩
            have hbV : b < w.heap.size := HLV.out (by omega) b rfl
            have cs := hFr2.cell (p := ⟨b, o + j, none⟩) (show ¬ b = w.heap.size + 1 by omega) (hFr.cell (p := ⟨b, o + j, none⟩) (HVS.out (by omega) b rfl) (hg.cell (hcell j _ (strs_get hs))))
            have hxs : s.size ≤ maxLen := HSS.out s (List.mem_of_getElem? hs)
            have htk : (ss.take (j + 1)).map (num L') = (ss.take j).map (num L') ++ [num L' s] := by rw [List.take_add_one, hs]; simp
            have HTK := Lib.hid htk
            clear hs hcell htk
            have hBk2 := hBk.fr hFr2 (fun q hq e => by have := HS'.out q hq; subst e; exact this.elim (fun h => by have := HLS.out _ h; omega) (fun h => by have := hg.size; omega))
            obtain ⟨bm1, bv, bD, bbase, hB1, hB2, hB3, hB4, hB5, hB6, hB7, hB8, hB9, hB10, hB11⟩ := hBk2
            obtain ⟨cB0, -⟩ := bk_cells hB1
            generalize hN : num L' s = N at HTK
            have hlkx : ∀ x : World, Fr (fun q => q = w.heap.size + 1 ∨ out.ownBlock = some q) wr x → x.cell? ⟨w.heap.size, 0, none⟩ = some (.pointer (some ⟨B, 0, none⟩)) ∧ x.cell? ⟨B, 0, none⟩ = some (.map (some bm1)) ∧
                (Instr.lookup 36 (.map (some bm1)) (.string s) false).run Tryd.prog x = .ok (.int .i64 N) x := fun x hx => by
              have hlo : ∀ q, q < wo.heap.size → out.ownBlock ≠ some q := fun q hq e => by have := (hor.lt q e).1; omega
              have hsw : w.heap.size < wo.heap.size := by have := hFr.size; omega
              have hbmS : bm1 < wo.heap.size := by have := hBk.ltS hB8; exact this
              have hbm : bm1 ≠ w.heap.size + 1 := fun e => (HS'.out _ hB8).elim (fun h => by have := HLS.out _ h; omega) (fun h => by omega)
              refine ⟨hx.cell (p := ⟨w.heap.size, 0, none⟩) (fun h => h.elim (fun (h : w.heap.size = w.heap.size + 1) => by omega) (hlo w.heap.size hsw)) ch0, hx.cell (p := ⟨B, 0, none⟩) (fun h => h.elim (fun (h : B = w.heap.size + 1) => by omega) (hlo B (by omega))) cB0, ?_⟩
              rw [← hN]
              exact (hB4.look (ownsMap_fr hB2 hx (fun h => h.elim hbm (hlo _ hbmS))) hxs).2
            have HK18 := Lib.hid hlkx
            obtain ⟨-, -, lkr⟩ := hlkx wr (Fr.refl _ _)
            clear hB1 hB2 hB3 hB4 hB5 hB6 hB7 hB8 hB9 hB10 hB11 hN hlkx
            have hco := hbo.cell
            have hfo := hbo.frozen
            obtain ⟨op, oc, hov⟩ := ownsRow_shape hor
            subst hov
            obtain ⟨i1, hi', hz0', hz1', hz2'⟩ := info_parts info3
            have ago : (Value.slice op j oc).ownBlock ≠ some (w.heap.size + 1) := fun e => by have := (hor.lt _ e).1; have := hg.size; omega
            go_upto_region 18 with fail
            refine region_hl (fun w' => w'.cell? ⟨w.heap.size, 0, none⟩ = some (.pointer (some ⟨B, 0, none⟩)) ∧ w'.cell? ⟨B, 0, none⟩ = some (.map (some bm1)) ∧ (Instr.lookup 36 (.map (some bm1)) (.string s) false).run Tryd.prog w' = .ok (.int .i64 N) w' ∧ w'.cell? ⟨w.heap.size + 1, 0, none⟩ = some (.slice op j oc)) 9 10 (by kernel_rfl) rfl ?_
            simp only [List.replicate_succ, List.replicate_zero]
            have HS18 : (fun w' : World => w'.cell? ⟨w.heap.size, 0, none⟩ = some (.pointer (some ⟨B, 0, none⟩)) ∧ w'.cell? ⟨B, 0, none⟩ = some (.map (some bm1)) ∧ (Instr.lookup 36 (.map (some bm1)) (.string s) false).run Tryd.prog w' = .ok (.int .i64 N) w' ∧ w'.cell? ⟨w.heap.size + 1, 0, none⟩ = some (.slice op j oc)) wr.drew :=
              have h := HK18.out _ (Fr.refl _ wr).drew; ⟨h.1, h.2.1, h.2.2, hco⟩
            refine hl_take_np 0 (by kernel_rfl) (by kernel_rfl) rfl (by kernel_rfl) HS18 (v := ?_) ?_ ?_
            rotate_left
            · (rintro x ⟨s1, s2, s3, s4⟩; go_simp; try rfl)
            simp only [Act.put, List.setIfInBounds_toArray, List.set_cons_zero, List.set_cons_succ]
            refine hl_take_np 1 (by kernel_rfl) (by kernel_rfl) rfl (by kernel_rfl) HS18 (v := ?_) ?_ ?_
            rotate_left
            · (rintro x ⟨s1, s2, s3, s4⟩; go_simp; try rfl)
            simp only [Act.put, List.setIfInBounds_toArray, List.set_cons_zero, List.set_cons_succ]
            refine hl_take_np 2 (by kernel_rfl) (by kernel_rfl) rfl (by kernel_rfl) HS18 (v := ?_) ?_ ?_
            rotate_left
            · (rintro x ⟨s1, s2, s3, s4⟩; go_simp; try rfl)
            simp only [Act.put, List.setIfInBounds_toArray, List.set_cons_zero, List.set_cons_succ]
            refine hl_take_np 3 (by kernel_rfl) (by kernel_rfl) rfl (by kernel_rfl) HS18 (v := ?_) ?_ ?_
            rotate_left
            · (rintro x ⟨s1, s2, s3, s4⟩; go_simp; try rfl)
            simp only [Act.put, List.setIfInBounds_toArray, List.set_cons_zero, List.set_cons_succ]
            refine hl_take_np 4 (by kernel_rfl) (by kernel_rfl) rfl (by kernel_rfl) HS18 (v := ?_) ?_ ?_
            rotate_left
            · (rintro x ⟨s1, s2, s3, s4⟩; go_simp; try rfl)
            simp only [Act.put, List.setIfInBounds_toArray, List.set_cons_zero, List.set_cons_succ]
            refine hl_take_np 5 (by kernel_rfl) (by kernel_rfl) rfl (by kernel_rfl) HS18 (v := ?_) ?_ ?_
            rotate_left
            · (rintro x ⟨s1, s2, s3, s4⟩; go_simp; try rfl)
            simp only [Act.put, List.setIfInBounds_toArray, List.set_cons_zero, List.set_cons_succ]
            refine hl_take_np 6 (by kernel_rfl) (by kernel_rfl) rfl (by kernel_rfl) HS18 (v := ?_) ?_ ?_
            rotate_left
            · (rintro x ⟨s1, s2, s3, s4⟩; go_simp; try rfl)
            simp only [Act.put, List.setIfInBounds_toArray, List.set_cons_zero, List.set_cons_succ]
            have hA18 : Fr (fun q => q = w.heap.size + 1 ∨ (Value.slice op j oc).ownBlock = some q) wr ((wr.alloc (.cells #[.int .i64 N] 3)).drew) := ((Fr.refl _ _).alloc _).drew
            refine hl_step 7 (by kernel_rfl) rfl ?_
            go_wp2_with fail
            show _ ∧ _
            refine ⟨(by first | exact (have h := HK18.out _ hA18; ⟨h.1, h.2.1, h.2.2, ((((G.refl wr).alloc _).drew).cell hco)⟩) | exact fun _ => (have h := HK18.out _ hA18; ⟨h.1, h.2.1, h.2.2, ((((G.refl wr).alloc _).drew).cell hco)⟩)), ?_⟩
            refine hl_step 8 (by kernel_rfl) rfl ?_
            refine wpList_append_lies _ rfl _ _ 27 rfl wo.heap.size 3 i1 _ 1 8 Tryd.underlying27 hi' hz0' hz1' hz2' rfl (by omega) (.slice op j oc) j (ints ((ss.take j).map (num L'))) rfl ((hor.alloc _).drew)
              ⟨wr.heap.size, 0, none⟩ 1 1 [.int .i64 N] rfl rfl (World.news_of_block (cs := #[.int .i64 N]) (t := 3) (fr := (0, 0)) (heap_alloc_new wr _)) (by simp [Value.oneCell'])
              (by omega) (by unfold maxLen; omega) (by omega) (by have := hFr2.size; simp; omega) (wr.heap.size + 1) (by simp) ?_
            intro gg cap w3 hown3 hgrow3 hat hlt3
            have cO3 := hgrow3.cell ((((G.refl wr).alloc _).drew).cell hco) (Ne.symm ago)
            have fO3 := (hgrow3.frozen_far ⟨w.heap.size + 1, 0, none⟩ (by have := hbo.lt; simp; omega) (Ne.symm ago)).trans (((((G.refl wr).alloc _).drew).frozen (p := ⟨w.heap.size + 1, 0, none⟩) hbo.lt).trans hfo)
            have hF3 : Fr (fun q => q = w.heap.size + 1 ∨ (Value.slice op j oc).ownBlock = some q) wr w3 := (((((G.refl wr).alloc _).drew).fr _).trans (grownBy_fr hgrow3) (fun _ _ h => .inr h))
            show _ ∧ _
            refine ⟨fun _ => (have h := HK18.out _ hF3; ⟨h.1, h.2.1, h.2.2, cO3⟩), ?_⟩
            refine hl_step 9 (by kernel_rfl) rfl ?_
            go_wp2_with fail
            show _ ∧ _
            refine ⟨(by first | exact fun h => absurd rfl h | trivial), ?_⟩
            refine hl_done (by kernel_rfl) ?_ _
            refine NoPanic.normal ?_
            go_wp2_with fail
            go_roundw
            case rel =>
              have hFo : Fr (fun q => q = w.heap.size + 1) wo w3 := hFr2.trans hF3 (fun q hq h => h.elim id (fun h => by have := (hor.lt q h).1; omega))
              have hb3 : Boxed w3 (w.heap.size + 1) 27 (.slice op j oc) := (grownBy_fr hgrow3).boxed ((((G.refl wr).alloc _).drew).boxed hbo) (fun e => ago e)
              refine ⟨j + 1, .slice (some ⟨gg, 0, none⟩) (j + 1) cap, by omega, by go_num, hb3.set _, ?_, hFo.setCell (p := ⟨w.heap.size + 1, 0, none⟩) (.inl rfl) _⟩
              rw [HTK.out]
              have e1 : ints ((ss.take j).map (num L') ++ [N]) = ints ((ss.take j).map (num L')) ++ [.int .i64 N] := by simp [ints]
              rw [e1]
              exact ((Fr.refl (fun q => q = w.heap.size + 1) w3).setCell (p := ⟨w.heap.size + 1, 0, none⟩) (.inl rfl) _).ownsRow hown3 (fun g hg e => by have := (hown3.lt g hg).1; have := hFr.size; omega)
            case measure => simp [intOf]; omega
          · obtain rfl : j = ss.length := by omega
            have hco := hbo.cell
            have hfo := hbo.frozen
            obtain ⟨op, oc, hov⟩ := ownsRow_shape hor
            subst hov
            have hb2' : Boxed wr (w.heap.size + 1 + 1) 28 (.int .i64 0) := hFr2.boxed (hFr.boxed hx2 (fun h => by have := HLS.out _ h; omega)) (by simp)
            have hc2' := hb2'.cell
            have hf2' := hb2'.frozen
            go_wp2_with fail
            have hDk : wr.heap[D]? = some (.deferred (some [])) := (hFr2.block D (Nat.lt_of_lt_of_le hDl hFr.size) (by omega)).trans ((hFr.block D hDl (fun h => by have := HLS.out _ h; omega)).trans HK.out)
            have b1 := boxed_putObj (o := .deferred none) (boxed_other (v' := .int .i64 0) (hbo.set (.slice op ss.length oc)) (show w.heap.size + 1 ≠ w.heap.size + 1 + 1 by omega)) (show w.heap.size + 1 ≠ D by omega)
            have b2 := boxed_putObj (o := .deferred none) ((boxed_other (v' := .slice op ss.length oc) hb2' (show w.heap.size + 1 + 1 ≠ w.heap.size + 1 by omega)).set (.int .i64 0)) (show w.heap.size + 1 + 1 ≠ D by omega)
            have hFin : Fr (fun q => q = w.heap.size + 1 ∨ q = w.heap.size + 1 + 1 ∨ q = D) wr (((wr.setCell ⟨w.heap.size + 1, 0, none⟩ (.slice op ss.length oc)).setCell ⟨w.heap.size + 1 + 1, 0, none⟩ (.int .i64 0)).putObj D (.deferred none)) :=
              (((Fr.refl _ wr).setCell (p := ⟨w.heap.size + 1, 0, none⟩) (.inl (.inl rfl)) _).setCell (p := ⟨w.heap.size + 1 + 1, 0, none⟩) (.inl (.inr (.inl rfl))) _).trans (putObj_fr _ D _) (fun q _ h => .inr (.inr h))
            refine leave_mark (D := D) ?_ (leave_nil (v := .tuple #[.slice op ss.length oc, .int .i64 0]) ?_ (.inr ⟨by have := HM.out; omega, .slice op ss.length oc, S', rfl, ?_, ?_, ?_, ?_, ?_⟩))
            · rw [Below.heap_setCell _ _ _ _ (by simp; omega), Below.heap_setCell _ _ _ _ (by simp; omega)]; exact hDk
            · simp [results, Tryd.results7, go_sem, b1.cell, b2.cell]
            · have h1 := ownsRow_setCell_below (ownsRow_setCell_below hor (a := ⟨w.heap.size + 1, 0, none⟩) (by have := hg.size; show w.heap.size + 1 < wo.heap.size; omega) (.slice op ss.length oc)) (a := ⟨w.heap.size + 1 + 1, 0, none⟩) (by have := hg.size; show w.heap.size + 1 + 1 < wo.heap.size; omega) (.int .i64 0)
              have h2 := ownsRow_putObj2 (D := D) (o := .deferred none) h1 (by rw [Below.heap_setCell _ _ _ _ (by simp; omega), Below.heap_setCell _ _ _ _ (by simp; omega)]; exact hDk)
              have h3 := ownsRow_mono h2 (base' := w.heap.size) (by have := hg.size; omega)
              rw [List.take_length, HL'.out] at h3
              exact h3
            · rw [HL'.out] at hBk
              exact hBk.fr ((hFr2.mono (fun q h => .inl h)).trans (T := fun q => q = w.heap.size + 1 ∨ q = w.heap.size + 1 + 1 ∨ q = D) (S := fun q => q = w.heap.size + 1 ∨ q = w.heap.size + 1 + 1 ∨ q = D) hFin (fun q hq h => h)) (fun q hq h => by
                have h1 := hg.size
                have h2 := hgw.size
                rcases HS'.out q hq with h' | h'
                · have := HLS.out q h'; rcases h with h | h | h <;> omega
                · rcases h with h | h | h <;> omega)
            · exact fun q hq => (HS'.out q hq).imp id (fun h => by have := hg.size; omega)
            · exact fun g hg' h => by have := (hor.lt g hg').1; have := hBk.ltS h; omega
            · exact (((hg.fr S).trans hFr (fun _ _ h => h)).trans hFr2 (fun q hq h => by omega)).trans hFin (fun q hq h => by have := hgw.size; rcases h with h | h | h <;> omega)
end Go.Proofs.YtamhlflacnldfaaDoor
