/- those up to a key, so many at most -/
import Derived.Test.YthdeehpnlcpbnaaHeapH
namespace Go.Proofs.Ythdeehpnlcpbnaa
set_option linter.unusedVariables false
set_option linter.unusedSimpArgs false
open Go.RowKit Go.Shelf
attribute [local go_sem] Oper.semAt_some

/-- of what was there just the blocks in S may have turned -/
def FS (w0 : World) (S : Nat → Prop) (Fo : Nat → Prop) (W : World) : Prop := (∀ k, Fo k → S k ∨ w0.heap.size ≤ k) ∧ Fr S w0 W
theorem Stable.fs (w0 : World) (S : Nat → Prop) : Stable (FS w0 S) := fun Fo Fo' W W' h a b c =>
  ⟨fun k hk => (b k hk).elim (h.1 k) (fun hk => .inr (Nat.le_trans h.2.size hk)), h.2.trans c (fun i hi hs => (h.1 i hs).elim id (fun h => by omega))⟩
theorem tk_len (key : Int) : ∀ n (l : List Item), (tk key n l).length ≤ n
  | 0, l => by simp [tk]
  | n + 1, l => by
    rw [tk]
    split
    · simp
    · split
      · have := tk_len key n (popL l); simp; omega
      · simp
theorem taken_no (B : Nat) (key many : Int) (w : World) (hm : many < 1) : Calls Try.prog 17 #[.pointer (some ⟨B, 0, none⟩), .int .i64 key, .int .i64 many] w fun e w' => e = .returned (.slice none 0 0) ∧ G w w' := by
  refine calls_of_marks Try.func17 rfl ?_
  simp only [Try.ntmps17, List.size_toArray, List.length_cons, List.length_nil, Nat.reduceAdd, Nat.reduceSub, Array.replicate_succ, Array.replicate_zero, List.push_toArray, List.append_toArray, List.nil_append, List.cons_append]
  have h0 := boxed_at w [.cells #[.int .i64 many] 3, .cells #[.slice none 0 0] 22, .cells #[.slice none 0 0] 22] 0 3 (.int .i64 many) rfl
  have h1 := boxed_at w [.cells #[.int .i64 many] 3, .cells #[.slice none 0 0] 22, .cells #[.slice none 0 0] 22] 1 22 (.slice none 0 0) rfl
  go_wp2_with fail
  refine (upto_any B key _).mono ?_
  rintro e w2 ⟨rfl, hw2⟩
  have hg : G (((w.alloc (.cells #[.int .i64 many] 3)).alloc (.cells #[.slice none 0 0] 22)).alloc (.cells #[.slice none 0 0] 22)) w2 := by rw [hw2]; exact ((G.refl _).alloc _).alloc _
  have hgw : G w w2 := ((((G.refl w).alloc _).alloc _).alloc _).trans hg
  have c0 := (hg.boxed h0).cell
  have hb1 := hg.boxed h1
  have c1 := hb1.cell
  have f1 := hb1.frozen
  simp only [Nat.add_zero] at c0
  clear hw2 h0 h1
  go_wp2_with fail
  have x1 := hb1.set (.slice none 0 0)
  refine leave_nil (v := .slice none 0 0) (by simp [results, Try.results17, go_sem, x1.cell]) ⟨rfl, hgw.setCell (by simp) _⟩
set_option maxHeartbeats 1000000 in
theorem taken_any (S : Nat → Prop) (B : Nat) (v : Value) (hs : List Item) (key : Int) (many : Nat) (w : World) (h : HeapAt S w B v hs) (hn : hs.length ≤ 1000000) (hm : 1 ≤ many) (hm8 : many ≤ 1000) :
    Calls Try.prog 17 #[.pointer (some ⟨B, 0, none⟩), .int .i64 key, .int .i64 many] w fun e w' => ∃ u, e = .returned u ∧ w'.ownsRow w.heap.size 40 2 u ((tk key hs.length hs).take many).length (icells ((tk key hs.length hs).take many)) ∧
      HeapNow S B (pops ((tk key hs.length hs).take many).length hs) w' ∧ Fr S w w' := by
  have HAT := Lib.hid h
  obtain ⟨i0, hi, hz0, hz1, hz2⟩ := info_parts infoI
  have h0 := boxed_at w [.cells #[.int .i64 many] 3, .cells #[.slice none 0 0] 22, .cells #[.slice none 0 0] 22] 0 3 (.int .i64 many) rfl
  have h1 := boxed_at w [.cells #[.int .i64 many] 3, .cells #[.slice none 0 0] 22, .cells #[.slice none 0 0] 22] 1 22 (.slice none 0 0) rfl
  have h2 := boxed_at w [.cells #[.int .i64 many] 3, .cells #[.slice none 0 0] 22, .cells #[.slice none 0 0] 22] 2 22 (.slice none 0 0) rfl
  have hm1 : ¬ (many : Int) < 1 := by omega
  have hfn : ∀ (bs : Array Value) (w : World), (binOp BinOp.eql 61 (.func (.func 32) #[] bs) Value.nilFunc).run Try.prog w = .ok (.bool false) w := fun bs w => by kernel_rfl
  clear h
  refine calls_of_marks Try.func17 rfl ?_
  simp only [Try.ntmps17, List.size_toArray, List.length_cons, List.length_nil, Nat.reduceAdd, Nat.reduceSub, Array.replicate_succ, Array.replicate_zero, List.push_toArray, List.append_toArray, List.nil_append, List.cons_append]
  go_wp2_with fail
  refine (upto_any B key _).mono ?_
  rintro e w3 ⟨rfl, hw3⟩
  have hg1 : G w (((w.alloc (.cells #[.int .i64 many] 3)).alloc (.cells #[.slice none 0 0] 22)).alloc (.cells #[.slice none 0 0] 22)) := (((G.refl w).alloc _).alloc _).alloc _
  have hg13 : G (((w.alloc (.cells #[.int .i64 many] 3)).alloc (.cells #[.slice none 0 0] 22)).alloc (.cells #[.slice none 0 0] 22)) w3 := by rw [hw3]; exact ((G.refl _).alloc _).alloc _
  have hgw3 := hg1.trans hg13
  have hzz : (((w.alloc (.cells #[.int .i64 many] 3)).alloc (.cells #[.slice none 0 0] 22)).alloc (.cells #[.slice none 0 0] 22)).heap.size = w.heap.size + 3 := by simp
  have k1 : Boxed w3 (w.heap.size + 3) 26 (.pointer (some ⟨B, 0, none⟩)) := by rw [hw3, ← hzz]; exact boxed_at _ [_, _] 0 _ _ rfl
  have k2 : Boxed w3 (w.heap.size + 3 + 1) 3 (.int .i64 key) := by rw [hw3, ← hzz]; exact boxed_at _ [_, _] 1 _ _ rfl
  have hz3 : w.heap.size + 5 ≤ w3.heap.size := by rw [hw3]; simp
  have hb0 := hg13.boxed h0
  have hb1 := hg13.boxed h1
  have hb2 := hg13.boxed h2
  simp only [Nat.add_zero] at hb0
  have c0 := hb0.cell
  clear hw3 hzz h0 h1 h2 hg1 hg13
  have hseq := upto_seq S B hs key (w.heap.size + 3) (w.heap.size + 3 + 1) w3 ⟨v, HAT.out.g hgw3⟩ k1 k2 hn (fun h => by have := HAT.out.lt _ h; omega) (fun h => by have := HAT.out.lt _ h; omega)
  have HLT : Hid (∀ k, S k → k < w.heap.size) := Lib.hid HAT.out.lt
  have hit : ∀ k, (S k ∨ k = w.heap.size + 3 ∨ k = w.heap.size + 3 + 1) → k < w3.heap.size ∧ k ≠ w.heap.size ∧ k ≠ w.heap.size + 1 ∧ k ≠ w.heap.size + 2 ∧ (S k ∨ w.heap.size ≤ k) := fun k hk => by
    rcases hk with h | h | h
    · have h1 := HLT.out k h; exact ⟨by omega, by omega, by omega, by omega, .inl h⟩
    · exact ⟨by omega, by omega, by omega, by omega, .inr (by omega)⟩
    · exact ⟨by omega, by omega, by omega, by omega, .inr (by omega)⟩
  have HIT := Lib.hid hit
  clear hit k1 k2
  have hsimp : w.heap.size + 1 + 1 = w.heap.size + 2 := rfl
  clear hsimp
  have hmd : decide ((many : Int) < 1) = false := by simpa using hm1
  go_wp2_with fail
  clear hfn hmd
  refine range_wp2 (gf := 32) (lb := #[.pointer (some ⟨w.heap.size + 3, 0, none⟩), .pointer (some ⟨w.heap.size + 3 + 1, 0, none⟩)]) (fun x W => W.alloc (.cells #[.int .i64 x.1, .int .i64 x.2] 40)) (fun x W => (G.refl W).alloc _) rfl (enters_of Try.func32 (by kernel_rfl) rfl)
    hseq (G.refl _) (fun k hk => (HIT.out k hk).1) (fun k hk => hk.elim) (fun _ => rfl)
    (fun pre Fo W => ∃ vo, pre.length < many ∧ FBox w.heap.size 3 (.int .i64 many) Fo W ∧ FBox (w.heap.size + 1) 22 (.slice none 0 0) Fo W ∧ FBox (w.heap.size + 2) 22 vo Fo W ∧ FRow (w.heap.size + 3) 40 2 vo pre.length (icells pre) Fo W ∧ FS w S Fo W)
    (fun c pre Fo W => ∃ vo, c = .ret ∧ pre.length = many ∧ FBox (w.heap.size + 1) 22 vo Fo W ∧ FRow (w.heap.size + 3) 40 2 vo pre.length (icells pre) Fo W ∧ FS w S Fo W)
    (fun p => Stable.ex fun vo => (Stable.pure _).and ((Stable.box _ _ _).and ((Stable.box _ _ _).and ((Stable.box _ _ _).and ((Stable.row _ _ _ _ _ _).and (Stable.fs _ _))))))
    (fun c p => Stable.ex fun vo => (Stable.pure _).and ((Stable.pure _).and ((Stable.box _ _ _).and ((Stable.row _ _ _ _ _ _).and (Stable.fs _ _)))))
    ⟨.slice none 0 0, by simp; omega, ⟨fun h => (HIT.out _ h).2.1 rfl, hb0⟩, ⟨fun h => (HIT.out _ h).2.2.1 rfl, hb1⟩, ⟨fun h => (HIT.out _ h).2.2.2.1 rfl, hb2⟩, ⟨fun _ h => (by cases h), World.ownsRow_nil _ _ _ _⟩, fun k hk => (HIT.out k hk).2.2.2.2, hgw3.fr _⟩
    ?a1 ?assign ?body ?done ?stop
  case assign =>
    intro l x W K hK
    simp only [encI, iv]
    gi_wp2
    exact hK
  case body =>
    rintro l pre x Fo W0 W hW0 hW3 hfrW hfo hfl hsz2 ⟨vo, hlm, ⟨hn0, hx0⟩, ⟨hn1, hx1⟩, ⟨hn2, hx2⟩, ⟨hnr, hrow⟩, hfs, hfS⟩ hpre
    obtain ⟨x0, x1⟩ := x
    simp only at hfrW
    have hne8 : ¬ W0.heap.size = w3.heap.size + 1 := by omega
    have k0 : W.cell? ⟨W0.heap.size, 0, none⟩ = some (.int .i64 x0) := hfrW.cell (p := ⟨W0.heap.size, 0, none⟩) hne8 (cell_alloc_at W0 [.int .i64 x0, .int .i64 x1] 40 (0, 0) 0 _ rfl)
    have k1 : W.cell? ⟨W0.heap.size, 1, none⟩ = some (.int .i64 x1) := hfrW.cell (p := ⟨W0.heap.size, 1, none⟩) hne8 (cell_alloc_at W0 [.int .i64 x0, .int .i64 x1] 40 (0, 0) 1 _ rfl)
    obtain ⟨lp, lc, hvl⟩ := ownsRow_shape hrow
    subst hvl
    have hc0 := hx0.cell
    have hc1 := hx1.cell
    have hf1 := hx1.frozen
    have hc2 := hx2.cell
    have hf2 := hx2.frozen
    have hnb : ∀ b, b < w.heap.size + 3 → ¬ (Value.slice lp pre.length lc).ownBlock = some b := fun b hb h => by have := (hrow.lt _ h).1; omega
    have HNB := Lib.hid hnb
    have HNR := Lib.hid hnr
    have HXX := Lib.hid (And.intro hx0 (And.intro hx1 hx2))
    have HSS := Lib.hid (And.intro hfs hfS)
    clear hfrW hpre hnb hseq hfs hb0 hb1 hb2
    have hstep : ∀ (w1' : World) (op : Option Addr) (oc : Nat), True := fun _ _ _ => trivial
    clear hstep
    have hsn : icells (pre ++ [(x0, x1)]) = icells pre ++ [.int .i64 x0, .int .i64 x1] := icells_snoc _ _
    have HSN := Lib.hid hsn
    clear hsn
    by_cases hfull : pre.length + 1 < many
    · have hfd : decide ((many : Int) ≤ (pre.length : Int) + 1) = false := by simp; omega
      gi_wp2_with (gi_at_builtin; refine wpListIn_append2 _ rfl _ _ 22 rfl (w.heap.size + 3) 40 i0 (.agg #[.int .i64 0, .int .i64 0]) 2 16 Try.underlying22 hi hz0 hz1 hz2 rfl (by decide) (.slice lp pre.length lc) pre.length (icells pre) rfl ((G.alloc (G.refl W) _).ownsRow hrow) ⟨W.heap.size, 0, none⟩ 1 1 [.int .i64 x0, .int .i64 x1] rfl rfl (World.news_of_block (cs := #[.int .i64 x0, .int .i64 x1]) (t := 40) (fr := (0, 0)) (alloc_new W _)) (by simp [Value.oneCell']) (by unfold maxLen; omega) (by omega) (by simp; omega) ?_; intro v' w1' hown hgrow hnil hat; obtain ⟨op, oc, rfl⟩ := ownsRow_shape hown; have hap := FRow.appended ⟨HNR.out, hrow⟩ hown hgrow hat hfl; have hxa := hap.2.boxed HXX.out.1 (HNB.out _ (by omega)); have hxb := hap.2.boxed HXX.out.2.1 (HNB.out _ (by omega)); have hxc := hap.2.boxed HXX.out.2.2 (HNB.out _ (by omega)); have ca := hxa.cell; have cb := hxb.cell; have fb := hxb.frozen; have cc := hxc.cell; have fc := hxc.frozen; have HAP := Lib.hid hap; have HXB := Lib.hid (And.intro hxa (And.intro hxb hxc)); clear hown hgrow hnil hat hap hxa hxb hxc hc0 hc1 hc2 hf1 hf2)
      have hst2 : Fr (fun k => k = w.heap.size + 2) w1' (w1'.setCell ⟨w.heap.size + 2, 0, none⟩ (.slice op (pre.length + 1) oc)) := (Fr.refl (fun k => k = w.heap.size + 2) w1').setCell (p := ⟨w.heap.size + 2, 0, none⟩) (.inl rfl) _
      have hF5 := ((HAP.out.2.mono (fun q e hq => hq.elim (fun h => HNR.out q e h) (fun h => h)) : Fr (fun k => ¬ (Fo k ∨ False)) W w1').setCell (p := ⟨w.heap.size + 2, 0, none⟩) (.inl (fun h => h.elim hn2 (fun h => h))) (.slice op (pre.length + 1) oc))
      have hS5 : Fr S w (w1'.setCell ⟨w.heap.size + 2, 0, none⟩ (.slice op (pre.length + 1) oc)) := (hfS.trans HAP.out.2 (fun i hi e => by have := (hrow.lt _ e).1; omega)).setCell (p := ⟨w.heap.size + 2, 0, none⟩) (.inr (by simp)) _
      have hr5 := FRow.setCell HAP.out.1 (p := ⟨w.heap.size + 2, 0, none⟩) (Nat.lt_succ_self _) (.slice op (pre.length + 1) oc)
      have hr6 : FRow (w.heap.size + 3) 40 2 (.slice op (pre.length + 1) oc) (pre ++ [(x0, x1)]).length (icells (pre ++ [(x0, x1)])) Fo (w1'.setCell ⟨w.heap.size + 2, 0, none⟩ (.slice op (pre.length + 1) oc)) := by rw [HSN.out, List.length_append]; exact hr5
      exact ⟨hF5, .slice op (pre.length + 1) oc, by simpa using hfull, FBox.other _ ⟨hn0, HXB.out.1⟩ (by omega), FBox.other _ ⟨hn1, HXB.out.2.1⟩ (by omega), FBox.set _ ⟨hn2, HXB.out.2.2⟩, hr6, HSS.out.1, hS5⟩
    · have hfd : (many : Int) ≤ (pre.length : Int) + 1 := by omega
      gi_wp2_with (gi_at_builtin; refine wpListIn_append2 _ rfl _ _ 22 rfl (w.heap.size + 3) 40 i0 (.agg #[.int .i64 0, .int .i64 0]) 2 16 Try.underlying22 hi hz0 hz1 hz2 rfl (by decide) (.slice lp pre.length lc) pre.length (icells pre) rfl ((G.alloc (G.refl W) _).ownsRow hrow) ⟨W.heap.size, 0, none⟩ 1 1 [.int .i64 x0, .int .i64 x1] rfl rfl (World.news_of_block (cs := #[.int .i64 x0, .int .i64 x1]) (t := 40) (fr := (0, 0)) (alloc_new W _)) (by simp [Value.oneCell']) (by unfold maxLen; omega) (by omega) (by simp; omega) ?_; intro v' w1' hown hgrow hnil hat; obtain ⟨op, oc, rfl⟩ := ownsRow_shape hown; have hap := FRow.appended ⟨HNR.out, hrow⟩ hown hgrow hat hfl; have hxa := hap.2.boxed HXX.out.1 (HNB.out _ (by omega)); have hxb := hap.2.boxed HXX.out.2.1 (HNB.out _ (by omega)); have hxc := hap.2.boxed HXX.out.2.2 (HNB.out _ (by omega)); have ca := hxa.cell; have cb := hxb.cell; have fb := hxb.frozen; have cc := hxc.cell; have fc := hxc.frozen; have HAP := Lib.hid hap; have HXB := Lib.hid (And.intro hxa (And.intro hxb hxc)); clear hown hgrow hnil hat hap hxa hxb hxc hc0 hc1 hc2 hf1 hf2)
      have hst2 : Fr (fun k => k = w.heap.size + 2) w1' (w1'.setCell ⟨w.heap.size + 2, 0, none⟩ (.slice op (pre.length + 1) oc)) := (Fr.refl (fun k => k = w.heap.size + 2) w1').setCell (p := ⟨w.heap.size + 2, 0, none⟩) (.inl rfl) _
      have hF5 := ((HAP.out.2.mono (fun q e hq => hq.elim (fun h => HNR.out q e h) (fun h => h)) : Fr (fun k => ¬ (Fo k ∨ False)) W w1').setCell (p := ⟨w.heap.size + 2, 0, none⟩) (.inl (fun h => h.elim hn2 (fun h => h))) (.slice op (pre.length + 1) oc))
      have hS5 : Fr S w (w1'.setCell ⟨w.heap.size + 2, 0, none⟩ (.slice op (pre.length + 1) oc)) := (hfS.trans HAP.out.2 (fun i hi e => by have := (hrow.lt _ e).1; omega)).setCell (p := ⟨w.heap.size + 2, 0, none⟩) (.inr (by simp)) _
      have hr5 := FRow.setCell HAP.out.1 (p := ⟨w.heap.size + 2, 0, none⟩) (Nat.lt_succ_self _) (.slice op (pre.length + 1) oc)
      have hr6 : FRow (w.heap.size + 3) 40 2 (.slice op (pre.length + 1) oc) (pre ++ [(x0, x1)]).length (icells (pre ++ [(x0, x1)])) Fo (w1'.setCell ⟨w.heap.size + 2, 0, none⟩ (.slice op (pre.length + 1) oc)) := by rw [HSN.out, List.length_append]; exact hr5
      have hr7 := FRow.setCell hr6 (p := ⟨w.heap.size + 1, 0, none⟩) (show w.heap.size + 1 < w.heap.size + 3 by omega) (.slice op (pre.length + 1) oc)
      exact ⟨hF5.setCell (p := ⟨w.heap.size + 1, 0, none⟩) (.inl (fun h => h.elim hn1 (fun h => h))) _, .slice op (pre.length + 1) oc, rfl, by simp; omega, FBox.set _ (FBox.other _ ⟨hn1, HXB.out.2.1⟩ (by omega)), hr7, HSS.out.1, hS5.setCell (p := ⟨w.heap.size + 1, 0, none⟩) (.inr (by simp)) _⟩
  case stop =>
    rintro D cc pre It Fo W W3 hD hDl hIF hFD hIt hFo ⟨hpart, hnow⟩ hfr ⟨vo, rfl, hlm, ⟨hn1, hx1⟩, ⟨hnr, hrow⟩, hfs, hfS⟩ hK
    obtain ⟨lp, lc, hvl⟩ := ownsRow_shape hrow
    subst hvl
    have hc1 := hx1.cell
    have hf1 := hx1.frozen
    have htake : (tk key hs.length hs).take many = pre := by rw [← hlm]; exact (List.prefix_iff_eq_take.1 hpart).symm
    have HT := Lib.hid htake
    have HROW := Lib.hid hrow
    have HNR := Lib.hid hnr
    have HK := Lib.hid hK
    have HNOW : Hid (HeapNow S B (pops pre.length hs) W) := Lib.hid (hnow.fr hfr (fun k hk e => by have := HLT.out k hk; omega))
    clear hrow hnr hK hseq hfr hnow hpart htake hb0 hb1 hb2
    go_wp2_with fail
    have b1 := boxed_putObj (o := .deferred none) hx1 (show w.heap.size + 1 ≠ D by omega)
    have hr6 := (putObj_fr W D (.deferred none)).ownsRow HROW.out (fun g hg e => HNR.out g hg (by rw [e]; exact hFD))
    refine leave_mark (D := D) HK.out (leave_nil (v := .slice lp pre.length lc) (by simp [results, Try.results17, go_sem, b1.cell]) ⟨_, rfl, by rw [HT.out]; exact ownsRow_mono hr6 (by omega), by rw [HT.out]; exact HNOW.out.fr (putObj_fr W D (.deferred none)) (fun k hk e => by have := HLT.out k hk; omega), hfS.trans (putObj_fr W D (.deferred none)) (fun i hi e => by omega)⟩)
  case done =>
    rintro D l2 It Fo W W3 hD hDl hIF hFD hIt hFo ⟨rfl, hnow⟩ hfr ⟨vo, hlm, ⟨hn0, hx0⟩, ⟨hn1, hx1⟩, ⟨hn2, hx2⟩, ⟨hnr, hrow⟩, hfs, hfS⟩ hK
    obtain ⟨lp, lc, hvl⟩ := ownsRow_shape hrow
    subst hvl
    have hc1 := hx1.cell
    have hf1 := hx1.frozen
    have hc2 := hx2.cell
    have HT : Hid ((tk key hs.length hs).take many = tk key hs.length hs) := Lib.hid (List.take_of_length_le (by omega))
    have HROW := Lib.hid hrow
    have HNR := Lib.hid hnr
    have HK := Lib.hid hK
    have HNOW : Hid (HeapNow S B (pops (tk key hs.length hs).length hs) W) := Lib.hid (hnow.fr hfr (fun k hk e => by have := HLT.out k hk; omega))
    clear hrow hnr hK hseq hfr hnow hb0 hb1 hb2
    obtain ⟨xs, hxs⟩ : ∃ xs, xs = tk key hs.length hs := ⟨_, rfl⟩
    rw [← hxs] at HROW HNR hx2 hc2 HNOW hlm
    have HXS := Lib.hid hxs
    clear hxs
    go_wp2_with fail
    have x1 := hx1.set (.slice lp xs.length lc)
    have hst : Fr (fun k => k = w.heap.size + 1) W (W.setCell ⟨w.heap.size + 1, 0, none⟩ (.slice lp xs.length lc)) := (Fr.refl (fun k => k = w.heap.size + 1) W).setCell (p := ⟨w.heap.size + 1, 0, none⟩) (.inl rfl) _
    have k2 := (hst.block D hDl (by omega)).trans HK.out
    have hS5 : Fr S w (W.setCell ⟨w.heap.size + 1, 0, none⟩ (.slice lp xs.length lc)) := hfS.setCell (p := ⟨w.heap.size + 1, 0, none⟩) (.inr (by simp)) _
    have hr5 := hst.ownsRow HROW.out (fun g hg e => by have := (HROW.out.lt g hg).1; omega)
    have hn5 := HNOW.out.fr hst (fun k hk e => by have := HLT.out k hk; omega)
    generalize (W.setCell ⟨w.heap.size + 1, 0, none⟩ (.slice lp xs.length lc)) = W5 at x1 k2 hS5 hr5 hn5 ⊢
    have b1 := boxed_putObj (o := .deferred none) x1 (show w.heap.size + 1 ≠ D by omega)
    have hr6 := (putObj_fr W5 D (.deferred none)).ownsRow hr5 (fun g hg e => HNR.out g hg (by rw [e]; exact hFD))
    refine leave_mark (D := D) k2 (leave_nil (v := .slice lp xs.length lc) (by simp [results, Try.results17, go_sem, b1.cell]) ⟨_, rfl, by rw [HT.out, ← HXS.out]; exact ownsRow_mono hr6 (by omega), by rw [HT.out, ← HXS.out]; exact hn5.fr (putObj_fr W5 D (.deferred none)) (fun k hk e => by have := HLT.out k hk; omega), hS5.trans (putObj_fr W5 D (.deferred none)) (fun i hi e => by omega)⟩)
end Go.Proofs.Ythdeehpnlcpbnaa
