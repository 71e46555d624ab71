/- all items of a heap -/
import Derived.Test.YthdeehpnlcpbnaaHeapG
namespace Go.Proofs.Ythdeehpnlcpbnaa
set_option linter.unusedVariables false
set_option linter.unusedSimpArgs false
open Go.RowKit Go.Shelf
attribute [local go_sem] Oper.semAt_some

theorem icells_snoc (l : List Item) (x : Item) : icells (l ++ [x]) = icells l ++ [.int .i64 x.1, .int .i64 x.2] := by rw [icells_app]; rfl
set_option maxHeartbeats 1000000 in
theorem items_any (S : Nat → Prop) (B : Nat) (v : Value) (hs : List Item) (w : World) (h : HeapAt S w B v hs) (hn : hs.length ≤ 1000000) :
    Calls Try.prog 22 #[.pointer (some ⟨B, 0, none⟩)] w fun e w' => ∃ u, e = .returned u ∧ w'.ownsRow w.heap.size 40 2 u (tk 9223372036854775807 hs.length hs).length (icells (tk 9223372036854775807 hs.length hs)) ∧ G w w' := by
  have HC := Lib.hid (copy_any S B v hs (w.alloc (.cells #[.slice none 0 0] 22)) (h.g ((G.refl w).alloc _)) hn)
  obtain ⟨key, hkey⟩ : ∃ key : Int, key = 9223372036854775807 := ⟨_, rfl⟩
  have HKEY := Lib.hid hkey
  rw [← hkey]
  obtain ⟨i0, hi, hz0, hz1, hz2⟩ := info_parts infoI
  have hw1 : G w (w.alloc (.cells #[.slice none 0 0] 22)) := (G.refl w).alloc _
  have hb0 : Boxed (w.alloc (.cells #[.slice none 0 0] 22)) w.heap.size 22 (.slice none 0 0) := boxed_at w [_] 0 _ _ rfl
  clear h hkey
  refine calls_of_marks Try.func22 rfl ?_
  simp only [Try.ntmps22, List.size_toArray, List.length_cons, List.length_nil, Nat.reduceAdd, Nat.reduceSub, Array.replicate_succ, Array.replicate_zero, List.push_toArray, List.append_toArray, List.nil_append, List.cons_append]
  go_wp2_with fail
  refine HC.out.mono ?_
  rintro e w2 ⟨B2, rfl, ⟨v2, S2, hat2, hs2⟩, hg2⟩
  have hgw := hw1.trans hg2
  have hb2 := hg2.boxed hb0
  have hz1w : (w.alloc (.cells #[.slice none 0 0] 22)).heap.size = w.heap.size + 1 := by simp
  have hS2 : ∀ k, S2 k → w.heap.size + 1 ≤ k := fun k hk => by have := hs2 k hk; omega
  have HAT2 := Lib.hid hat2
  have HS2 := Lib.hid hS2
  have hz2w : w.heap.size + 1 ≤ w2.heap.size := by have := hg2.size; omega
  clear hat2 hs2 hS2 hz1w hb0 hw1 hg2 HC
  go_wp2_with fail
  have hup := upto_any B2 key w2
  rw [HKEY.out] at hup
  refine hup.mono ?_
  rintro e w3 ⟨rfl, hw3⟩
  have hg23 : G w2 w3 := by rw [hw3]; exact ((G.refl w2).alloc _).alloc _
  have h1 : Boxed w3 w2.heap.size 26 (.pointer (some ⟨B2, 0, none⟩)) := by rw [hw3]; exact boxed_at w2 [_, _] 0 _ _ rfl
  have h2 : Boxed w3 (w2.heap.size + 1) 3 (.int .i64 key) := by rw [hw3, HKEY.out]; exact boxed_at w2 [_, _] 1 _ _ rfl
  have hz3 : w2.heap.size + 2 ≤ w3.heap.size := by rw [hw3]; exact Nat.le_of_eq (allocs_size w2 [_, _]).symm
  clear hw3 hup
  have hseq := upto_seq S2 B2 hs key w2.heap.size (w2.heap.size + 1) w3 ⟨v2, HAT2.out.g hg23⟩ h1 h2 hn (fun h => by have := HAT2.out.lt _ h; omega) (fun h => by have := HAT2.out.lt _ h; omega)
  have hgw3 := hgw.trans hg23
  have hb3 := hg23.boxed hb2
  have HLT : Hid (∀ k, S2 k → k < w2.heap.size) := Lib.hid HAT2.out.lt
  have hit : ∀ k, (S2 k ∨ k = w2.heap.size ∨ k = w2.heap.size + 1) → w.heap.size + 1 ≤ k ∧ k < w3.heap.size := fun k hk => by
    rcases hk with h | h | h
    · have h1 := HS2.out k h; have h2 := HLT.out k h; omega
    · omega
    · omega
  have HIT := Lib.hid hit
  clear hit
  have htl : ∀ pre x, pre ++ [x] <+: tk key hs.length hs → pre.length ≤ 1000000 := fun pre x hp => by
    have h1 := hp.length_le
    have h2 : ∀ n (l : List Item), (tk key n l).length ≤ n := fun n => by
      induction n with
      | zero => intro l; simp [tk]
      | succ n ih => intro l; rw [tk]; split
                     · simp
                     · split
                       · have := ih (popL l); simp; omega
                       · simp
    have := h2 hs.length hs
    simp at h1
    omega
  have HTL := Lib.hid htl
  clear h1 h2 hg23 hb2 htl
  go_wp2_with fail
  refine range_wp2 (gf := 32) (lb := #[.pointer (some ⟨w2.heap.size, 0, none⟩), .pointer (some ⟨w2.heap.size + 1, 0, none⟩)]) (fun x W => W.alloc (.cells #[.int .i64 x.1, .int .i64 x.2] 40)) (fun x W => (G.refl W).alloc _) rfl (enters_of Try.func32 (by kernel_rfl) rfl)
    hseq (G.refl _) (fun k hk => (HIT.out k hk).2) (fun k hk => hk.elim) (fun _ => rfl)
    (fun pre Fo W => ∃ vo, FBox w.heap.size 22 vo Fo W ∧ FRow (w.heap.size + 1) 40 2 vo pre.length (icells pre) Fo W ∧ FG w Fo W)
    (fun c pre Fo W => False)
    (fun p => Stable.ex fun vo => (Stable.box _ _ _).and ((Stable.row _ _ _ _ _ _).and (Stable.fg _)))
    (fun c p => Stable.pure _)
    ⟨.slice none 0 0, ⟨fun h => by have := (HIT.out _ h).1; omega, hb3⟩, ⟨fun _ h => (by cases h), World.ownsRow_nil _ _ _ _⟩, fun k hk => by have := (HIT.out k hk).1; omega, hgw3⟩
    ?a1 ?assign ?body ?done ?stop
  case assign =>
    intro l x W K hK
    simp only [encI, iv]
    gi_wp2
    exact hK
  case stop =>
    intro D cc pre It Fo W W3 hD hDl hIF hFD hIt hFo hpart hfr hff hK
    exact hff.elim
  case body =>
    rintro l pre x Fo W0 W hW0 hW3 hfrW hfo hfl hsz2 ⟨vo, ⟨hn0, hx0⟩, ⟨hnr, hrow⟩, hfg, hg⟩ hpre
    obtain ⟨x0, x1⟩ := x
    have hpl := HTL.out _ _ hpre
    simp only at hfrW
    have hne8 : ¬ W0.heap.size = w3.heap.size + 1 := by omega
    have k0 : W.cell? ⟨W0.heap.size, 0, none⟩ = some (.int .i64 x0) := hfrW.cell (p := ⟨W0.heap.size, 0, none⟩) hne8 (cell_alloc_at W0 [.int .i64 x0, .int .i64 x1] 40 (0, 0) 0 _ rfl)
    have k1 : W.cell? ⟨W0.heap.size, 1, none⟩ = some (.int .i64 x1) := hfrW.cell (p := ⟨W0.heap.size, 1, none⟩) hne8 (cell_alloc_at W0 [.int .i64 x0, .int .i64 x1] 40 (0, 0) 1 _ rfl)
    obtain ⟨lp, lc, hvl⟩ := ownsRow_shape hrow
    subst hvl
    have hc0 := hx0.cell
    have hf0 := hx0.frozen
    have hnb : ¬ (Value.slice lp pre.length lc).ownBlock = some w.heap.size := fun h => by have := (hrow.lt _ h).1; omega
    clear hfrW hpre
    gi_wp2_with (gi_at_builtin; refine wpListIn_append2 _ rfl _ _ 22 rfl (w.heap.size + 1) 40 i0 (.agg #[.int .i64 0, .int .i64 0]) 2 16 Try.underlying22 hi hz0 hz1 hz2 rfl (by decide) (.slice lp pre.length lc) pre.length (icells pre) rfl ((G.alloc (G.refl W) _).ownsRow hrow) ⟨W.heap.size, 0, none⟩ 1 1 [.int .i64 x0, .int .i64 x1] rfl rfl (World.news_of_block (cs := #[.int .i64 x0, .int .i64 x1]) (t := 40) (fr := (0, 0)) (alloc_new W _)) (by simp [Value.oneCell']) (by unfold maxLen; omega) (by omega) (by simp; omega) ?_; intro v' w1' hown hgrow hnil hat; obtain ⟨op, oc, rfl⟩ := ownsRow_shape hown; have hap := FRow.appended ⟨hnr, hrow⟩ hown hgrow hat hfl; have hxb := hap.2.boxed hx0 hnb; have cb := hxb.cell; have fb := hxb.frozen; have HAP := Lib.hid hap; have HXB := Lib.hid hxb; clear hown hgrow hnil hat hap hxb)
    have hst : Fr (fun k => k = w.heap.size) w1' (w1'.setCell ⟨w.heap.size, 0, none⟩ (.slice op (pre.length + 1) oc)) := (Fr.refl (fun k => k = w.heap.size) w1').setCell (p := ⟨w.heap.size, 0, none⟩) (.inl rfl) _
    have hF5 := ((HAP.out.2.mono (fun q e hq => hq.elim (fun h => hnr q e h) (fun h => h)) : Fr (fun k => ¬ (Fo k ∨ False)) W w1').setCell (p := ⟨w.heap.size, 0, none⟩) (.inl (fun h => h.elim hn0 (fun h => h))) (.slice op (pre.length + 1) oc))
    have hW5 : G w w1' := ((hg.fr (fun q => w.heap.size ≤ q)).trans HAP.out.2 (fun i hi e => by have := (hrow.lt _ e).1; omega)).g (fun _ h => h)
    have hr5 := FRow.setCell HAP.out.1 (p := ⟨w.heap.size, 0, none⟩) (Nat.lt_succ_self _) (.slice op (pre.length + 1) oc)
    refine ⟨hF5, .slice op (pre.length + 1) oc, FBox.set _ ⟨hn0, HXB.out⟩, ?_, hfg, hW5.setCell (by simp) _⟩
    rw [icells_snoc, List.length_append]
    exact hr5
  case done =>
    rintro D l2 It Fo W W3 hD hDl hIF hFD hIt hFo ⟨rfl, -⟩ hfr ⟨vo, ⟨hn0, hx0⟩, ⟨hnr, hrow⟩, hfg, hg⟩ hK
    obtain ⟨lp, lc, hvl⟩ := ownsRow_shape hrow
    subst hvl
    have hc0 := hx0.cell
    have hf0 := hx0.frozen
    have HROW := Lib.hid hrow
    have HNR := Lib.hid hnr
    have HK := Lib.hid hK
    clear hrow hnr hK hseq hfr HTL
    obtain ⟨xs, hxs⟩ : ∃ xs, xs = tk key hs.length hs := ⟨_, rfl⟩
    rw [← hxs] at HROW HNR hx0 hc0
    have HXS := Lib.hid hxs
    clear hxs
    go_wp2_with fail
    have x1 := hx0.set (.slice lp xs.length lc)
    have hst : Fr (fun k => k = w.heap.size) W (W.setCell ⟨w.heap.size, 0, none⟩ (.slice lp xs.length lc)) := (Fr.refl (fun k => k = w.heap.size) W).setCell (p := ⟨w.heap.size, 0, none⟩) (.inl rfl) _
    have k2 := (hst.block D hDl (by omega)).trans HK.out
    have hg5 : G w (W.setCell ⟨w.heap.size, 0, none⟩ (.slice lp xs.length lc)) := hg.setCell (by simp) _
    have hr5 := hst.ownsRow HROW.out (fun g hg e => by have := (HROW.out.lt g hg).1; omega)
    generalize (W.setCell ⟨w.heap.size, 0, none⟩ (.slice lp xs.length lc)) = W5 at x1 k2 hg5 hr5 ⊢
    have b1 := boxed_putObj (o := .deferred none) x1 (show w.heap.size ≠ D by omega)
    have hr6 := (putObj_fr W5 D (.deferred none)).ownsRow hr5 (fun g hg e => HNR.out g hg (by rw [e]; exact hFD))
    refine leave_mark (D := D) k2 (leave_nil (v := .slice lp xs.length lc) (by simp [results, Try.results22, go_sem, b1.cell]) ⟨_, rfl, by rw [← HXS.out]; exact ownsRow_mono hr6 (by omega), hg5.putObj (by omega) _⟩)
end Go.Proofs.Ythdeehpnlcpbnaa
