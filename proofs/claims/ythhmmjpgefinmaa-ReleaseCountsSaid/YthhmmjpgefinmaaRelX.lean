/- ReleaseCounts: the walk -/
import Derived.Test.YthhmmjpgefinmaaRelG
import Derived.Test.YthhmmjpgefinmaaRelU
set_option maxRecDepth 10000
namespace Go.Proofs.Ythhmmjpgefinmaa
set_option linter.unusedVariables false
set_option linter.unusedSimpArgs false
open Go.RowKit Go.Shelf
attribute [local go_sem] Oper.semAt_some

/-- the closes that have been seen -/
structure CntI (w : World) (bw bk : Nat) (u : Value) (n : Nat) (cl : List (Int × Int)) (pre : List (Int × Int)) (Fo : Nat → Prop) (W : World) : Prop where
  rb : FBox w.heap.size 4 (.bool false) Fo W
  wb : FBox bw 32 u Fo W
  kb : FBox bk 3 (.int .i64 pre.length) Fo W
  row : FRow w.heap.size 38 2 u n (icells cl) Fo W
  fg : FG w Fo W
theorem CntI.stable (w : World) (bw bk : Nat) (u : Value) (n : Nat) (cl : List (Int × Int)) (pre : List (Int × Int)) : Stable (CntI w bw bk u n cl pre) := by
  intro Fo Fo' W W' h a b c
  exact ⟨Stable.box _ _ _ Fo Fo' W W' h.rb a b c, Stable.box _ _ _ Fo Fo' W W' h.wb a b c, Stable.box _ _ _ Fo Fo' W W' h.kb a b c, Stable.row _ _ _ _ _ _ Fo Fo' W W' h.row a b c, Stable.fg w Fo Fo' W W' h.fg a b c⟩
set_option maxHeartbeats 8000000 in
theorem counts_any (a b : Int) (l : List Slt) (v : Value) (w : World) (h : RdrS w v l) (hn : l.length ≤ 4611686018427387904) :
    Calls Try.prog 3 #[.int .i64 a, .int .i64 b, v] w fun e w' => e = .returned (.bool true) ∧ G w w' := by
  have hgw : G w (w.alloc (.cells #[.bool false] 4)) := (G.refl w).alloc _
  have hrb := Boxed.new w 4 (.bool false)
  have hzz : (w.alloc (.cells #[.bool false] 4)).heap.size = w.heap.size + 1 := by simp
  have HOUT : Hid (∀ X, G (w.alloc (.cells #[.bool false] 4)) X → X.frozen? ⟨w.heap.size, 0, none⟩ = false ∧ X.cell? ⟨w.heap.size, 0, none⟩ = some (.bool false) ∧ (X.setCell ⟨w.heap.size, 0, none⟩ (.bool true)).cell? ⟨w.heap.size, 0, none⟩ = some (.bool true) ∧ G w (X.setCell ⟨w.heap.size, 0, none⟩ (.bool true))) := Lib.hid (fun X hX => by
    have hb := hX.boxed hrb
    exact ⟨hb.frozen, hb.cell, (hb.set _).cell, (hgw.trans hX).setCell (Nat.le_refl _) _⟩)
  obtain ⟨p, c, rfl⟩ := h.shape
  obtain ⟨m, hm⟩ : ∃ m, m = l.length := ⟨_, rfl⟩
  have HH := Lib.hid h
  rw [← hm] at HH hn ⊢
  have HM := Lib.hid hm
  clear hm h
  refine calls_of_marks Try.func3 rfl ?_
  simp only [Try.ntmps3, List.size_toArray, List.length_cons, List.length_nil, Nat.reduceAdd, Nat.reduceSub, Array.replicate_succ, Array.replicate_zero, List.push_toArray, List.append_toArray, List.nil_append, List.cons_append]
  go_upto_region 1 with fail
  generalize (w.alloc (.cells #[.bool false] 4)) = W1 at hgw hrb hzz HOUT ⊢
  by_cases hlen : m ≤ 120
  · have hlenI : ¬ (120 : Int) < (m : Int) := by omega
    obtain ⟨nn, e, hcv⟩ : ∃ n e, cntV a b l = (n, e) := ⟨_, _, rfl⟩
    have hct : cntT a b l = .tuple #[.int .i64 nn, .int .i64 e] := by unfold cntT; rw [hcv]
    have HCT : Hid (∀ X, G w X → Calls Try.prog 7 #[.int .i64 a, .int .i64 b, .slice p m c] X fun e' w' => e' = .returned (.tuple #[.int .i64 nn, .int .i64 e]) ∧ G X w') := Lib.hid (fun X hX => by
      have := rcount_any a b l _ X (HH.out.g hX) (by have := HM.out; omega)
      rw [hct] at this; exact this)
    have HCR : Hid (∀ X u, RdrS X u l → Calls Try.prog 8 #[.int .i64 a, .int .i64 b, u] X fun e' w' => e' = .returned (.tuple #[.int .i64 nn, .int .i64 e]) ∧ G X w') := Lib.hid (fun X u hX => by
      have := slotsCount_any a b l u X hX (by have := HM.out; omega)
      rw [hct] at this; exact this)
    have HTH : Hid (∀ X, G w X → Calls Try.prog 9 #[.slice p m c] X fun e' w' => ∃ u, e' = .returned u ∧ (∃ q c', u = .slice q m c') ∧ RdrS w' u l ∧ G X w') := Lib.hid (fun X hX => by
      have hr := HH.out.g hX
      rw [HM.out] at hr ⊢
      refine (slotsR_any l _ X hr (by have := HM.out; omega)).mono ?_
      rintro e' w' ⟨u, rfl, hown, hg⟩
      have h2 := ownsRow_shape hown
      exact ⟨u, rfl, h2, rdr_of_owns hown, hg⟩)
    have HRT := Lib.hid (fun (X : World) (hX : G w X) => slots_any l _ X (HH.out.g hX) (by have := HM.out; omega))
    have HRR := Lib.hid (fun (X : World) (u : Value) (hX : RdrS X u l) => slotsRight_any l u X hX (by have := HM.out; omega))
    have HCV := Lib.hid hcv
    clear hct hcv
    go_wp2_with fail
    refine (HCT.out W1 hgw).mono ?_
    rintro e0 w2 ⟨rfl, hg2⟩
    have hgw2 := hgw.trans hg2
    clear HCT
    go_wp2_with fail
    refine (HTH.out w2 hgw2).mono ?_
    rintro e0 w3 ⟨u3, rfl, ⟨q3, c3, rfl⟩, hr3, hg3⟩
    have hgw3 := hgw2.trans hg3
    have HC3 := Lib.hid (HCR.out w3 _ hr3)
    clear hr3 HCR
    go_wp2_with fail
    refine HC3.out.mono ?_
    rintro e0 w4 ⟨rfl, hg4⟩
    have hgw4 := hgw3.trans hg4
    clear HC3
    go_wp2_with fail
    refine (HRT.out w4 hgw4).mono ?_
    rintro e0 w5 ⟨rfl, hg5⟩
    have hgw5 := hgw4.trans hg5
    clear HRT
    go_wp2_with fail
    refine (HTH.out w5 hgw5).mono ?_
    rintro e0 w6 ⟨u6, rfl, ⟨q6, c6, rfl⟩, hr6, hg6⟩
    have hgw6 := hgw5.trans hg6
    have HR6 := Lib.hid (HRR.out w6 _ hr6)
    clear hr6 HRR
    go_wp2_with fail
    refine HR6.out.mono ?_
    rintro e0 w7 ⟨rfl, hg7⟩
    have hgw7 := hgw6.trans hg7
    clear HR6
    by_cases hnn : nn ≤ 300
    · go_wp2_with fail
      refine (HTH.out w7 hgw7).mono ?_
      rintro e0 w8 ⟨u8, rfl, ⟨q8, c8, rfl⟩, hr8, hg8⟩
      have hgw8 := hgw7.trans hg8
      have HW9 := Lib.hid (closesR_any a b l _ w8 hr8 (by have := HM.out; omega))
      clear hr8 HTH
      go_wp2_with fail
      refine HW9.out.mono ?_
      rintro e0 w9 ⟨u9, rfl, hown9, hg9⟩
      have hgw9 := hgw8.trans hg9
      obtain ⟨N, hN⟩ : ∃ N, N = (closesW a b l).length := ⟨_, rfl⟩
      rw [← hN] at hown9
      obtain ⟨q9, c9, rfl⟩ := ownsRow_shape hown9
      have HN := Lib.hid hN
      have hg19 := ((((hg2.trans hg3).trans hg4).trans hg5).trans hg6).trans (hg7.trans (hg8.trans hg9))
      have HROW9 := Lib.hid hown9
      have HNG : Hid (∀ g, (Value.slice q9 N c9).ownBlock = some g → g < w9.heap.size) := Lib.hid (fun g hg => (hown9.lt g hg).2)
      have HNL : Hid (N ≤ 300) := Lib.hid (by
        rw [hN]
        by_cases he : e = 0
        · subst he
          obtain ⟨h1, h2, h3⟩ := cntV_ok HCV.out
          unfold closesW
          rw [HCV.out, if_pos rfl]
          omega
        · unfold closesW
          rw [HCV.out, if_neg he]; simp)
      clear HW9 hN hown9 hg2 hg3 hg4 hg5 hg6 hg7 hgw2 hgw3 hgw4 hgw5 hgw6 hgw7
      go_upto_region 11 with fail
      have k1 := boxed_at w9 [.cells #[.slice q9 N c9] 32, .cells #[.int .i64 0] 3] 0 32 (.slice q9 N c9) rfl
      have k2 := boxed_at w9 [.cells #[.slice q9 N c9] 32, .cells #[.int .i64 0] 3] 1 3 (.int .i64 0) rfl
      simp only [Nat.add_zero] at k1
      change Boxed ((w9.alloc (.cells #[.slice q9 N c9] 32)).alloc (.cells #[.int .i64 0] 3)) _ _ _ at k1
      change Boxed ((w9.alloc (.cells #[.slice q9 N c9] 32)).alloc (.cells #[.int .i64 0] 3)) _ _ _ at k2
      have hg9A : G w9 ((w9.alloc (.cells #[.slice q9 N c9] 32)).alloc (.cells #[.int .i64 0] 3)) := ((G.refl w9).alloc _).alloc _
      have hzA : ((w9.alloc (.cells #[.slice q9 N c9] 32)).alloc (.cells #[.int .i64 0] 3)).heap.size = w9.heap.size + 2 := by simp
      generalize ((w9.alloc (.cells #[.slice q9 N c9] 32)).alloc (.cells #[.int .i64 0] 3)) = W10 at k1 k2 hg9A hzA ⊢
      have hg110 := hg19.trans hg9A
      have hgw10 := hgw.trans hg110
      have hz9 := hgw9.size
      have HROW10 : Hid (W10.ownsRow w.heap.size 38 2 (.slice q9 N c9) N (icells (closesW a b l))) := Lib.hid (ownsRow_mono (hg9A.ownsRow HROW9.out) (by have := hgw8.size; omega))
      have hnf : ∀ (bs : Array Value) (X : World), (binOp BinOp.eql 35 (.func (.func 30) #[] bs) Value.nilFunc).run Try.prog X = .ok (.bool false) X := fun bs X => by kernel_rfl
      clear HROW9 hg9 hgw8 hg8 hg19 hg9A
      go_wp2_with fail
      refine (rcloses_any a b _ p m c rfl W10).mono ?_
      rintro e0 w11 ⟨ba, bb, bs, rfl, d1, d2, d3, ⟨z1, z2, z3⟩, hg11⟩
      have hg111 := hg110.trans hg11
      have hgw11 := hgw.trans hg111
      have hl1 := d1.lt
      have hl2 := d2.lt
      have hl3 := d3.lt
      have hz11 := hg11.size
      have hseq := rcloses_seq a b l _ ba bb bs w11 d1 d2 d3 (HH.out.g hgw11) (by have := HM.out; omega)
      have hrb11 := hg111.boxed hrb
      have hk1 := hg11.boxed k1
      have hk2 := hg11.boxed k2
      have HROW11 := Lib.hid (hg11.ownsRow HROW10.out)
      have HVL : Hid (0 < l.length → ∀ g, (Value.slice p m c).ownBlock = some g → g < w.heap.size) := Lib.hid (fun h0 => HH.out.lt h0 (by omega))
      clear d1 d2 d3 k1 k2 hrb hg111 hg110 HROW10 hg11
      go_wp2_with fail
      clear hnf
      refine range_wp2 (gf := 30) (lb := #[.pointer (some ⟨ba, 0, none⟩), .pointer (some ⟨bb, 0, none⟩), .pointer (some ⟨bs, 0, none⟩)]) (fun x W => W) (fun x W => G.refl W) rfl (enters_of Try.func30 (by kernel_rfl) rfl)
        hseq (G.refl _) (fun k hk => hk.elim) (fun k hk => by
          rcases hk with (e | e | e) | ⟨h0, e⟩
          · omega
          · omega
          · omega
          · have := HVL.out h0 k e; omega) (fun _ => rfl)
        (fun pre Fo W => CntI w w9.heap.size (w9.heap.size + 1) (.slice q9 N c9) N (closesW a b l) pre Fo W)
        (fun c pre Fo W => False)
        (fun pre => CntI.stable _ _ _ _ _ _ _)
        (fun c pre => Stable.pure _)
        ⟨⟨id, hrb11⟩, ⟨id, hk1⟩, ⟨id, hk2⟩, ⟨fun _ _ => id, HROW11.out⟩, ⟨fun _ => False.elim, hgw11⟩⟩
        ?a1 ?assign ?body ?done ?stop
      case assign =>
        intro l2 x W K hK
        simp only [encC]
        gi_wp2
        exact hK
      case body =>
        rintro l2 pre x Fo W0' W4 hW0 hW3 hfrW hfo hfl hsz2 hI hpre
        obtain ⟨t, q⟩ := x
        have hx : (closesW a b l)[pre.length]? = some (t, q) := by
          obtain ⟨r, hr⟩ := hpre
          rw [← hr]; simp
        have hkN : pre.length < N := by
          have h1 := hpre.length_le
          rw [List.length_append, ← HN.out] at h1
          simp at h1
          omega
        obtain ⟨bb2, o2, rfl, e0, e1⟩ := rdr_item (rdr_of_owns hI.row.2) hx
        have hc1 := hI.wb.2.cell
        have hc2 := hI.kb.2.cell
        have hf2 := hI.kb.2.frozen
        have HBK : Hid (∀ v, Fr (fun k => ¬ (Fo k ∨ RoC l (.slice p m c) ba bb bs k)) W4 (W4.setCell ⟨w9.heap.size + 1, 0, none⟩ v)) := Lib.hid (fun v => (Fr.refl (fun k => ¬ (Fo k ∨ RoC l (.slice p m c) ba bb bs k)) W4).setCell (p := ⟨w9.heap.size + 1, 0, none⟩) (.inl (fun h => by
          rcases h with e | (e | e | e) | ⟨h0, e⟩
          · exact hI.kb.1 e
          · have e2 : w9.heap.size + 1 = ba := e; omega
          · have e2 : w9.heap.size + 1 = bb := e; omega
          · have e2 : w9.heap.size + 1 = bs := e; omega
          · have := HVL.out h0 _ e; simp only at this; omega)) v)
        have HI := Lib.hid hI
        obtain ⟨k, hk⟩ : ∃ k, k = pre.length := ⟨_, rfl⟩
        rw [← hk] at hc2 hkN e0 e1
        have HK := Lib.hid hk
        have hkI : (k : Int) < (N : Int) := by omega
        have hk0 : (0 : Int) ≤ (k : Int) := by omega
        have hnl := HNL.out
        clear hI hk hx hpre hfrW hseq hrb11 hk1 hk2
        gi_wp2
        refine ⟨HBK.out _, ?_⟩
        have h := HI.out
        have hset : Fr (fun q => q = w9.heap.size + 1) W4 (W4.setCell ⟨w9.heap.size + 1, 0, none⟩ (.int .i64 (k + 1))) := (Fr.refl (fun q => q = w9.heap.size + 1) W4).setCell (p := ⟨w9.heap.size + 1, 0, none⟩) (.inl rfl) _
        refine ⟨FBox.other _ h.rb (by omega), FBox.other _ h.wb (by omega), ?_, ⟨h.row.1, hset.ownsRow h.row.2 (fun g hg e => ?_)⟩, FG.setCell h.fg (by show w.heap.size ≤ w9.heap.size + 1; omega) _⟩
        · have h2 := FBox.set (.int .i64 (k + 1)) h.kb
          rw [List.length_append, ← HK.out]
          exact h2
        · have e2 : g = w9.heap.size + 1 := e
          have h3 := HNG.out g (by exact hg)
          omega
      case done =>
        rintro D xs' It Fo W4 W6 hD hDl hIF hFD hIt hFo hdo hfr hI hK
        have hk : xs'.length = N := by rw [hdo, HN.out]
        have hc1 := hI.wb.2.cell
        have hc2 := hI.kb.2.cell
        rw [hk] at hc2
        have HRB := Lib.hid hI.rb.2
        have hg4 : G w W4 := hI.fg.2
        have HK := Lib.hid hK
        have hDw : w.heap.size + 1 ≤ D := by omega
        clear hI hK hk hdo hfr hseq hrb11 hk1 hk2
        go_wp2_with fail
        refine (awake_any W4).mono ?_
        rintro e0 w5 ⟨rfl, hg5⟩
        have hb5 := hg5.boxed HRB.out
        have hf5 := hb5.frozen
        have hcc5 := hb5.cell
        have HK5 : Hid ((w5.setCell ⟨w.heap.size, 0, none⟩ (.bool true)).heap[D]? = some (.deferred (some []))) := Lib.hid ((Below.heap_setCell w5 _ _ _ (by show D ≠ w.heap.size; omega)).trans ((hg5.block hDl).trans HK.out))
        have hc9 : ((w5.setCell ⟨w.heap.size, 0, none⟩ (.bool true)).putObj D (.deferred none)).cell? ⟨w.heap.size, 0, none⟩ = some (.bool true) := (boxed_putObj (D := D) (o := .deferred none) (hb5.set (.bool true)) (by omega)).cell
        have HE : Hid (G w ((w5.setCell ⟨w.heap.size, 0, none⟩ (.bool true)).putObj D (.deferred none))) := Lib.hid (((hg4.trans hg5).setCell (Nat.le_refl _) _).putObj (by omega) _)
        clear hb5 hg5 hg4 hc1 hc2
        go_wp2_with fail
        refine leave_mark (D := D) HK5.out (leave_nil (v := .bool true) (by simp [results, Try.results3, go_sem, hc9]) ⟨rfl, HE.out⟩)
      case stop =>
        rintro D c0 pre It Fo W4 W6 hD hDl hIF hFD hIt hFo hpo hfr hx hK
        exact hx.elim
    · have hnnI : (300 : Int) < nn := by omega
      have hg17 := ((((hg2.trans hg3).trans hg4).trans hg5).trans hg6).trans hg7
      go_wp2_with fail
      refine (awake_any w7).mono ?_
      rintro e0 w8 ⟨rfl, hg8⟩
      obtain ⟨f1, f2, f3, f4⟩ := HOUT.out w8 (hg17.trans hg8)
      clear hgw hrb hg2 hg3 hg4 hg5 hg6 hg7 hg8 hg17 hgw2 hgw3 hgw4 hgw5 hgw6 hgw7 HTH
      go_wp2_with fail
      refine leave_nil (v := .bool true) (by simp [results, Try.results3, go_sem, f3]) ⟨rfl, f4⟩
  · have hlenI : (120 : Int) < (m : Int) := by omega
    go_wp2_with fail
    refine (awake_any W1).mono ?_
    rintro e w2 ⟨rfl, hg2⟩
    obtain ⟨f1, f2, f3, f4⟩ := HOUT.out w2 hg2
    clear hgw hrb hg2
    go_wp2_with fail
    refine leave_nil (v := .bool true) (by simp [results, Try.results3, go_sem, f3]) ⟨rfl, f4⟩
end Go.Proofs.Ythhmmjpgefinmaa
