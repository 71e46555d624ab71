/- laid together: SortOw BufX -/
import Derived.Test.YtahdodijpmkddaaSortOv
import Derived.Test.YtahdodijpmkddaaBufW
import Derived.Test.YtahdodijpmkddaaBufL
set_option maxRecDepth 10000
namespace Go.Proofs.Ytahdodijpmkddaa
set_option linter.unusedVariables false
set_option linter.unusedSimpArgs false
open Go.RowKit Go.Shelf
attribute [local go_sem] Oper.semAt_some

set_option maxHeartbeats 2000000 in
theorem overEsZ_any (Z : Nat → Prop) (L : List Edg) (v : Value) (n base : Nat) (w : World) (hZv : ∀ g, v.ownBlock = some g → Z g) (hZE : ∀ E ∈ L, ∀ g, E.v.ownBlock = some g → Z g) (hr : w.ownsRow base 33 5 v n (ecs L)) (hE : ∀ E ∈ L, ∃ m, m ≤ 1000000 ∧ Room w base 86 4 E.v m) (hn : n ≤ 1000000) :
    Calls Try.prog 11 #[v] w fun e w' => (∃ u, e = .returned u) ∧ Fr Z w w' ∧ Keeps w w' := by
  have hll : L.length = n := by have := hr.1; rw [ecs_len] at this; omega
  rcases id hr.2 with ⟨rfl, hn0⟩ | ⟨g, c, cur, rfl, hb, hg, hnc, hcm, hs, -⟩
  · subst hn0
    clear hr hE hll hZv hZE
    go_enter Try.func11, Try.ntmps11
    go_wp2_with fail
    go_loop [2] (fun i => i = .int .i64 0) (fun _ => 0)
    case atStart => rfl
    case round =>
      obtain rfl := hrel
      go_wp2_with fail
      go_loop [4] (fun i => i = .int .i64 0) (fun _ => 0)
      case atStart => rfl
      case round =>
        obtain rfl := hrel
        go_wp2_with fail
        go_returns
        exact ⟨⟨_, rfl⟩, Fr.refl _ _, Keeps.refl _⟩
  · have hZg := hZv g rfl
    have HZE := Lib.hid hZE
    have HR := Lib.hid hr
    have HE := Lib.hid hE
    have HL := Lib.hid hll
    have HG := Lib.hid hg
    have HS := Lib.hid hs
    have hcI : c ≤ 9223372036854775807 := by unfold maxLen at hcm; exact hcm
    obtain ⟨q, hq⟩ : ∃ q, q = n + 12 := ⟨_, rfl⟩
    have hqI : (n : Int) + 12 = (q : Int) := by omega
    have hq1 : n + 12 ≤ q := by omega
    have hq2 : q ≤ n + 12 := by omega
    clear hr hE hll hg hs hcm hq hZE hZv
    go_enter Try.func11, Try.ntmps11
    go_wp2_with fail
    go_loopw [2] (fun i wr => ∃ k : Nat, k ≤ n ∧ i = .int .i64 k ∧ Hid (wr.ownsRow base 33 5 (.slice (some ⟨g, 0, none⟩) n c) n (ecs L) ∧ Fr Z w wr ∧ Keeps w wr)) (fun i _ => n - (intOf i).toNat)
    case atStart => exact ⟨0, by omega, rfl, Lib.hid ⟨HR.out, Fr.refl _ _, Keeps.refl _⟩⟩
    case round =>
      obtain ⟨k, hk, rfl, HI⟩ := hrel
      by_cases hlt : k < n
      · have hltI : (k : Int) < (n : Int) := by omega
        obtain ⟨E, hE⟩ : ∃ x, L[k]? = some x := ⟨L[k]'(by have := HL.out; omega), List.getElem?_eq_getElem _⟩
        obtain ⟨x0, x1, x2, x3, x4⟩ := ecs_get hE
        have c0 := HI.out.1.cells (g := g) rfl _ _ x0
        have c1 := HI.out.1.cells (g := g) rfl _ _ x1
        have c2 := HI.out.1.cells (g := g) rfl _ _ x2
        have c3 := HI.out.1.cells (g := g) rfl _ _ x3
        have c4 := HI.out.1.cells (g := g) rfl _ _ x4
        rw [addr_add, Nat.zero_add] at c0 c1 c2 c3 c4
        have HZM := Lib.hid (HZE.out E (List.mem_of_getElem? hE))
        obtain ⟨m, hm, hro⟩ := HE.out E (List.mem_of_getElem? hE)
        have hro := hro.keeps HI.out.2.2
        have HC := Lib.hid (overE_any E m base wr hro hm)
        obtain ⟨vp, vc, hv⟩ := hro.isS
        have HRO := Lib.hid hro
        unfold ev at HC
        rw [hv] at HC c4 HRO HZM
        clear hE x0 x1 x2 x3 x4 hm hro hv
        go_wp2_with fail
        refine HC.out.mono ?_
        rintro e w2 ⟨⟨u, rfl⟩, hf, hkp⟩
        have HI2 := Lib.hid (show w2.ownsRow base 33 5 (.slice (some ⟨g, 0, none⟩) n c) n (ecs L) ∧ Fr Z w w2 ∧ Keeps w w2 from
          ⟨hf.ownsRow HI.out.1 (fun g' hg' => room_apart HRO.out HI.out.1 hg'), HI.out.2.1.trans hf (fun q _ e => HZM.out q e), HI.out.2.2.trans hkp⟩)
        clear hf hkp HC c0 c1 c2 c3 c4
        go_wp2_with fail
        go_roundw
        case rel => exact ⟨k + 1, by omega, by go_num, HI2⟩
        case measure => simp [intOf]; omega
      · have hltI : ¬ (k : Int) < (n : Int) := by omega
        obtain ⟨WA, rfl⟩ : ∃ WA : World, WA = wr := ⟨_, rfl⟩
        by_cases hcq : c ≤ q
        · have hcqI : (c : Int) ≤ (q : Int) := by omega
          have hc9 : c ≤ 1000012 := by omega
          go_wp2_with fail
          go_loopw [4] (fun i wr => ∃ k : Nat, k ≤ c ∧ i = .int .i64 k ∧ Hid (Fr Z w wr ∧ Keeps w wr)) (fun i _ => c - (intOf i).toNat)
          case atStart => exact ⟨0, by omega, rfl, Lib.hid HI.out.2⟩
          case round =>
            obtain ⟨k2, hk2, rfl, HJ⟩ := hrel
            by_cases hlt2 : k2 < c
            · have hltJ : (k2 : Int) < (c : Int) := by omega
              go_wp2_with fail
              refine (markEdge_any 2 k2 wr (by omega) (by omega) (by omega) (by omega)).mono ?_
              rintro e w2 ⟨rfl, hg2⟩
              obtain ⟨cur', hh, hsz⟩ := (HJ.out.2.trans (Keeps.g hg2)) g _ _ HG.out
              obtain ⟨u0, c0⟩ := room_cell hh (hsz.trans HS.out) (show k2 < c by omega) (show 0 < 5 by omega)
              obtain ⟨u1, c1⟩ := room_cell hh (hsz.trans HS.out) (show k2 < c by omega) (show 1 < 5 by omega)
              obtain ⟨u2, c2⟩ := room_cell hh (hsz.trans HS.out) (show k2 < c by omega) (show 2 < 5 by omega)
              obtain ⟨u3, c3⟩ := room_cell hh (hsz.trans HS.out) (show k2 < c by omega) (show 3 < 5 by omega)
              obtain ⟨u4, c4⟩ := room_cell hh (hsz.trans HS.out) (show k2 < c by omega) (show 4 < 5 by omega)
              rw [Nat.add_zero] at c0
              have f0 := room_froz hh (k2 * 5)
              have f1 := room_froz hh (k2 * 5 + 1)
              have f2 := room_froz hh (k2 * 5 + 2)
              have f3 := room_froz hh (k2 * 5 + 3)
              have f4 := room_froz hh (k2 * 5 + 4)
              have HG2 := Lib.hid hg2
              clear hh hsz hg2
              go_wp2_with fail
              go_roundw
              case rel =>
                refine ⟨k2 + 1, by omega, by go_num, Lib.hid ⟨?_, ?_⟩⟩
                · exact (((((HJ.out.1.trans (HG2.out.fr (fun _ => False)) (fun _ _ h => h.elim)).setCell (p := ⟨g, k2 * 5, none⟩) (.inl hZg) _).setCell (p := ⟨g, k2 * 5 + 1, none⟩) (.inl hZg) _).setCell (p := ⟨g, k2 * 5 + 2, none⟩) (.inl hZg) _).setCell (p := ⟨g, k2 * 5 + 3, none⟩) (.inl hZg) _).setCell (p := ⟨g, k2 * 5 + 4, none⟩) (.inl hZg) _
                · exact (((((HJ.out.2.trans (Keeps.g HG2.out)).trans (Keeps.set _ _ _)).trans (Keeps.set _ _ _)).trans (Keeps.set _ _ _)).trans (Keeps.set _ _ _)).trans (Keeps.set _ _ _)
              case measure => simp [intOf]; omega
            · have hltJ : ¬ (k2 : Int) < (c : Int) := by omega
              go_wp2_with fail
              go_returns
              exact ⟨⟨_, rfl⟩, HJ.out.1, HJ.out.2⟩
        · have hcqI : ¬ (c : Int) ≤ (q : Int) := by omega
          have hqcI : (q : Int) ≤ (c : Int) := by omega
          go_wp2_with fail
          go_loopw [4] (fun i wr => ∃ k : Nat, k ≤ q ∧ i = .int .i64 k ∧ Hid (Fr Z w wr ∧ Keeps w wr)) (fun i _ => q - (intOf i).toNat)
          case atStart => exact ⟨0, by omega, rfl, Lib.hid HI.out.2⟩
          case round =>
            obtain ⟨k2, hk2, rfl, HJ⟩ := hrel
            by_cases hlt2 : k2 < q
            · have hltJ : (k2 : Int) < (q : Int) := by omega
              go_wp2_with fail
              refine (markEdge_any 2 k2 wr (by omega) (by omega) (by omega) (by omega)).mono ?_
              rintro e w2 ⟨rfl, hg2⟩
              obtain ⟨cur', hh, hsz⟩ := (HJ.out.2.trans (Keeps.g hg2)) g _ _ HG.out
              obtain ⟨u0, c0⟩ := room_cell hh (hsz.trans HS.out) (show k2 < c by omega) (show 0 < 5 by omega)
              obtain ⟨u1, c1⟩ := room_cell hh (hsz.trans HS.out) (show k2 < c by omega) (show 1 < 5 by omega)
              obtain ⟨u2, c2⟩ := room_cell hh (hsz.trans HS.out) (show k2 < c by omega) (show 2 < 5 by omega)
              obtain ⟨u3, c3⟩ := room_cell hh (hsz.trans HS.out) (show k2 < c by omega) (show 3 < 5 by omega)
              obtain ⟨u4, c4⟩ := room_cell hh (hsz.trans HS.out) (show k2 < c by omega) (show 4 < 5 by omega)
              rw [Nat.add_zero] at c0
              have f0 := room_froz hh (k2 * 5)
              have f1 := room_froz hh (k2 * 5 + 1)
              have f2 := room_froz hh (k2 * 5 + 2)
              have f3 := room_froz hh (k2 * 5 + 3)
              have f4 := room_froz hh (k2 * 5 + 4)
              have HG2 := Lib.hid hg2
              clear hh hsz hg2
              go_wp2_with fail
              go_roundw
              case rel =>
                refine ⟨k2 + 1, by omega, by go_num, Lib.hid ⟨?_, ?_⟩⟩
                · exact (((((HJ.out.1.trans (HG2.out.fr (fun _ => False)) (fun _ _ h => h.elim)).setCell (p := ⟨g, k2 * 5, none⟩) (.inl hZg) _).setCell (p := ⟨g, k2 * 5 + 1, none⟩) (.inl hZg) _).setCell (p := ⟨g, k2 * 5 + 2, none⟩) (.inl hZg) _).setCell (p := ⟨g, k2 * 5 + 3, none⟩) (.inl hZg) _).setCell (p := ⟨g, k2 * 5 + 4, none⟩) (.inl hZg) _
                · exact (((((HJ.out.2.trans (Keeps.g HG2.out)).trans (Keeps.set _ _ _)).trans (Keeps.set _ _ _)).trans (Keeps.set _ _ _)).trans (Keeps.set _ _ _)).trans (Keeps.set _ _ _)
              case measure => simp [intOf]; omega
            · have hltJ : ¬ (k2 : Int) < (q : Int) := by omega
              go_wp2_with fail
              go_returns
              exact ⟨⟨_, rfl⟩, HJ.out.1, HJ.out.2⟩
end Go.Proofs.Ytahdodijpmkddaa

set_option maxRecDepth 10000
namespace Go.Proofs.Ytahdodijpmkddaa
set_option linter.unusedVariables false
set_option linter.unusedSimpArgs false
open Go.RowKit Go.Shelf
attribute [local go_sem] Oper.semAt_some

theorem zero_at (W : World) : EdgAt W zeroE := ⟨Rdr.nil _ _ _ _, by show (0 : Nat) ≤ _; omega, (fun p hp => by cases hp), Nat.zero_le _, Nat.zero_le _, Nat.zero_le _⟩
theorem room_nil (W : World) (base : Nat) : Room W base 86 4 (.slice none 0 0) 0 := room_of (World.ownsRow_nil _ _ _ _)
theorem sameL_refl {A B : List Edg} (h : A.map outE = B.map outE) : sameL A B = true := sameL_out.2 h
set_option maxHeartbeats 16000000 in
theorem same_any (S P T : Nat → Prop) (B R : Nat) (s : List Out) (p : Bp) (v : Value) (L : List Edg) (E : Edg) (w : World) (h : BufIn S P w B s p) (hr : RBuf T w R s v L) (hE : EdgAt w E) (ht : InR E.tm) (hn : s.length ≤ 1000) (hps : ∀ o ∈ s, o.2.2.2.2.length ≤ 1000000) :
    Calls Try.prog 18 #[.pointer (some ⟨B, 0, none⟩), .pointer (some ⟨R, 0, none⟩), ev E] w fun e w' => e = .returned (.bool true) ∧ G w w' := by
  have HALL := Lib.hid (fun X (hX : G w X) => ball_any S P B s p X (h.g hX) (by omega) hps)
  have HRAL := Lib.hid (fun X (hX : G w X) => rall_any T R s v L X (hr.g hX) (by omega) hps)
  have HFST := Lib.hid (fun X (hX : G w X) => bfst_any S P B s p X (h.g hX) hps (by omega))
  have HLN0 := Lib.hid (fun X (hX : G w X) => blen_any S P B s p X (h.g hX) (by omega))
  have HHA0 := Lib.hid (fun X (hX : G w X) => bhas_any S P B s p E X (h.g hX) hE.isE ht (by omega))
  have HRH0 := Lib.hid (fun X (hX : G w X) => rhas_any T R s v L E X (hr.g hX) hE.isE (by omega))
  obtain ⟨pe, ne, ce, hev⟩ := id hE.isE
  have hEv : ev E = .agg #[.string E.f, .string E.t, .string E.l, .int .i64 E.tm, .slice pe ne ce] := by unfold ev; rw [hev]
  rw [hEv] at HHA0 HRH0 ⊢
  generalize E.f = ef at HHA0 HRH0 ⊢
  generalize E.t = et at HHA0 HRH0 ⊢
  generalize E.l = el at HHA0 HRH0 ⊢
  generalize E.tm = em at HHA0 HRH0 ⊢
  have hgB : G w (w.alloc (.cells #[.string ef, .string et, .string el, .int .i64 em, .slice pe ne ce] 33)) := (G.refl w).alloc _
  have d0 := cell_alloc_at w [.string ef, .string et, .string el, .int .i64 em, .slice pe ne ce] 33 (0, 0) 0 _ rfl
  have d1 := cell_alloc_at w [.string ef, .string et, .string el, .int .i64 em, .slice pe ne ce] 33 (0, 0) 1 _ rfl
  have d2 := cell_alloc_at w [.string ef, .string et, .string el, .int .i64 em, .slice pe ne ce] 33 (0, 0) 2 _ rfl
  have d3 := cell_alloc_at w [.string ef, .string et, .string el, .int .i64 em, .slice pe ne ce] 33 (0, 0) 3 _ rfl
  have d4 := cell_alloc_at w [.string ef, .string et, .string el, .int .i64 em, .slice pe ne ce] 33 (0, 0) 4 _ rfl
  simp only [Nat.zero_add] at d0 d1 d2 d3 d4
  obtain ⟨hs, hhs⟩ : ∃ b, b = hasO (okey (outE E)) s := ⟨_, rfl⟩
  rw [← hhs] at HHA0 HRH0
  have HPS := Lib.hid hps
  clear h hr hE ht hps hev hEv hhs
  go_enter Try.func18, Try.ntmps18
  go_upto_region 1 with fail
  generalize (w.alloc (.cells #[.string ef, .string et, .string el, .int .i64 em, .slice pe ne ce] 33)) = WB at hgB d0 d1 d2 d3 d4 ⊢
  go_wp2_with fail
  refine (HALL.out WB hgB).mono ?_
  rintro e W1 ⟨u1, L1, rfl, ho1, hm1, hO1, hg1⟩
  obtain ⟨p1, c1, hu1⟩ := ownsRow_shape ho1
  subst hu1
  have HR1 := Lib.hid (show ∀ X, G W1 X → X.ownsRow WB.heap.size 33 5 (.slice p1 L1.length c1) L1.length (ecs L1) ∧ (∀ F ∈ L1, OwnE X WB.heap.size F) from fun X hX => ⟨hX.ownsRow ho1, fun F hF => (hO1 F hF).g hX⟩)
  have HM1 := Lib.hid hm1
  have HL1 : Hid (L1.length = s.length) := Lib.hid (by rw [← hm1, List.length_map])
  have hgw1 := hgB.trans hg1
  have d0 := hg1.cell d0
  have d1 := hg1.cell d1
  have d2 := hg1.cell d2
  have d3 := hg1.cell d3
  have d4 := hg1.cell d4
  have HOLT := Lib.hid ho1.lt
  have HO1 := Lib.hid hO1
  have hzB := hgB.size
  have hz1 := hg1.size
  clear ho1 hO1 hm1 hg1 HALL
  go_wp2_with fail
  refine (HRAL.out W1 hgw1).mono ?_
  rintro e W2 ⟨u2, M, rfl, ho2, hm2, hO2, hg2⟩
  obtain ⟨p2, c2, hu2⟩ := ownsRow_shape ho2
  subst hu2
  have HR2 := Lib.hid (show ∀ X, G W2 X → X.ownsRow W1.heap.size 33 5 (.slice p2 M.length c2) M.length (ecs M) ∧ (∀ F ∈ M, OwnE X W1.heap.size F) from fun X hX => ⟨hX.ownsRow ho2, fun F hF => (hO2 F hF).g hX⟩)
  have HM2 := Lib.hid hm2
  have HL2 : Hid (M.length = s.length) := Lib.hid (by rw [← hm2, List.length_map])
  have hgw2 := hgw1.trans hg2
  have d0 := hg2.cell d0
  have d1 := hg2.cell d1
  have d2 := hg2.cell d2
  have d3 := hg2.cell d3
  have d4 := hg2.cell d4
  have HG12 := Lib.hid hg2
  clear ho2 hO2 hm2 hg2 HRAL
  go_wp2_with fail
  refine (HFST.out W2 hgw2).mono ?_
  rintro e W3 hfo
  have hz2 := HG12.out.size
  rcases hfo with ⟨hsn, rfl, hg3⟩ | ⟨o, s2, FE, hsc, rfl, hFo, hFown, hg3⟩
  · have HSN := Lib.hid hsn
    have d0 := hg3.cell d0
    have d1 := hg3.cell d1
    have d2 := hg3.cell d2
    have d3 := hg3.cell d3
    have d4 := hg3.cell d4
    have hgw3 := hgw2.trans hg3
    have hgA : G W3 (W3.alloc (.cells #[.string ⟨#[]⟩, .string ⟨#[]⟩, .string ⟨#[]⟩, .int .i64 0, .slice none 0 0] 33)) := (G.refl W3).alloc _
    have HFB := Lib.hid (alloc_new W3 (.cells #[.string ⟨#[]⟩, .string ⟨#[]⟩, .string ⟨#[]⟩, .int .i64 0, .slice none 0 0] 33))
    have d0 := hgA.cell d0
    have d1 := hgA.cell d1
    have d2 := hgA.cell d2
    have d3 := hgA.cell d3
    have d4 := hgA.cell d4
    have hsl : s.length = 0 := by rw [hsn]; rfl
    have hMl : M.length = 0 := by have := HL2.out; omega
    have HMl := Lib.hid hMl
    have HSL0 := Lib.hid hsl
    clear hsn HFST hMl hsl
    go_upto_region 4 with fail
    generalize (W3.alloc (.cells #[.string ⟨#[]⟩, .string ⟨#[]⟩, .string ⟨#[]⟩, .int .i64 0, .slice none 0 0] 33)) = W4 at hgA d0 d1 d2 d3 d4 HFB ⊢
    obtain ⟨f0, f1, f2, f3, f4⟩ := cells5 HFB.out
    have HG4 := Lib.hid (hgw3.trans hgA)
    have hg24 := hg3.trans hgA
    have HG24 := Lib.hid hg24
    have HSE : Hid (∀ X, G W4 X → Calls Try.prog 9 #[.slice p1 L1.length c1, .slice p2 M.length c2] X fun e w' => e = .returned (.bool true) ∧ G X w') := Lib.hid (fun X hX => by
      have h1 := HR1.out X ((HG12.out.trans hg24).trans hX)
      have h2 := HR2.out X (hg24.trans hX)
      have := sameEs_any L1 M _ _ X ⟨rdr_of_owns h1.1, fun F hF => (h1.2 F hF).at⟩ ⟨rdr_of_owns h2.1, fun F hF => (h2.2 F hF).at⟩ (by have := HL1.out; omega) (by have := HL2.out; omega)
      rw [sameL_refl (HM1.out.trans HM2.out.symm)] at this
      exact this)
    have HLN := Lib.hid (fun X (hX : G W4 X) => HLN0.out X (HG4.out.trans hX))
    have HHA := Lib.hid (fun X (hX : G W4 X) => HHA0.out X (HG4.out.trans hX))
    have HRH := Lib.hid (fun X (hX : G W4 X) => HRH0.out X (HG4.out.trans hX))
    have HZ : Hid (∀ X, G W4 X → Calls Try.prog 23 #[.agg #[.string ⟨#[]⟩, .string ⟨#[]⟩, .string ⟨#[]⟩, .int .i64 0, .slice none 0 0], .agg #[.string ⟨#[]⟩, .string ⟨#[]⟩, .string ⟨#[]⟩, .int .i64 0, .slice none 0 0]] X fun e w' => e = .returned (.bool true) ∧ G X w') := Lib.hid (fun X hX => by
      have := sameE_any zeroE zeroE X (zero_at X) (zero_at X)
      rw [sameE_iff.2 rfl] at this
      exact this)
    have HOV : Hid (∀ X, G W4 X → Calls Try.prog 11 #[.slice p1 L1.length c1] X fun e w' => (∃ u, e = .returned u) ∧ Fr (fun q => (Value.slice p1 L1.length c1).ownBlock = some q ∨ ∃ F ∈ L1, F.v.ownBlock = some q) X w' ∧ Keeps X w') := Lib.hid (fun X hX => by
      have h1 := HR1.out X ((HG12.out.trans HG24.out).trans hX)
      exact overEsZ_any _ L1 _ _ WB.heap.size X (fun g hg => .inl hg) (fun F hF g hg => .inr ⟨F, hF, hg⟩) h1.1 (fun F hF => ⟨F.ps.length, HPS.out (outE F) (by rw [← HM1.out]; exact List.mem_map.2 ⟨F, hF, rfl⟩), room_of (h1.2 F hF).own⟩) (by have := HL1.out; omega))
    have HOF : Hid (∀ X, Keeps W4 X → Calls Try.prog 17 #[.agg #[.string ⟨#[]⟩, .string ⟨#[]⟩, .string ⟨#[]⟩, .int .i64 0, .slice none 0 0]] X fun e w' => (∃ u, e = .returned u) ∧ Fr (fun q => (Value.slice none 0 0).ownBlock = some q) X w' ∧ Keeps X w') := Lib.hid (fun X hX => overE_any zeroE 0 0 X (room_nil _ _) (by omega))
    have HFL : Hid (∀ q, (Value.slice none 0 0).ownBlock = some q → w.heap.size ≤ q) := Lib.hid (fun q hq => by cases hq)
    have HZL : Hid (∀ q, ((Value.slice p1 L1.length c1).ownBlock = some q ∨ ∃ F ∈ L1, F.v.ownBlock = some q) → w.heap.size ≤ q) := Lib.hid (fun q hq => by
      rcases hq with e | ⟨F, hF, e⟩
      · have := (HOLT.out q e).1; omega
      · have := ((HO1.out F hF).own.lt q e).1; omega)
    have HZN : Hid (¬ ((Value.slice p1 L1.length c1).ownBlock = some W3.heap.size ∨ ∃ F ∈ L1, F.v.ownBlock = some W3.heap.size)) := Lib.hid (fun hq => by
      have hz3 := hg3.size
      rcases hq with e | ⟨F, hF, e⟩
      · have := (HOLT.out _ e).2; omega
      · have := ((HO1.out F hF).own.lt _ e).2; omega)
    clear hgw3 hgA hgw2 hgw1 hgB hg3 hg24 HLN0 HHA0 HRH0
    rw [HSL0.out] at HLN
    rw [HMl.out] at HSE ⊢
    obtain ⟨WD, hWD⟩ : ∃ WD : World, WD = W4.drew := ⟨_, rfl⟩
    have hsD : G W4 WD := by rw [hWD]; exact (G.refl W4).drew
    refine region_hlW (fun w' => G W4 w') 99 46 (by kernel_rfl) rfl ?_
    intro Q0 HQ0
    simp only [List.replicate_succ, List.replicate_zero]
    rw [← hWD]
    clear hWD
    refine hl_take_np 0 (by kernel_rfl) (by kernel_rfl) rfl (by kernel_rfl) hsD (v := ?_) ?_ ?_
    rotate_left
    · (rintro x hx; clear hx; go_simp; try rfl)
    simp only [Act.put, List.setIfInBounds_toArray, List.set_cons_zero, List.set_cons_succ]
    refine hl_take_np 1 (by kernel_rfl) (by kernel_rfl) rfl (by kernel_rfl) hsD (v := ?_) ?_ ?_
    rotate_left
    · (rintro x hx; clear hx; go_simp; try rfl)
    simp only [Act.put, List.setIfInBounds_toArray, List.set_cons_zero, List.set_cons_succ]
    refine hl_stepW 2 (by kernel_rfl) rfl (by kernel_rfl) ?_
    intro K hK
    go_simp
    refine (HSE.out WD hsD).mono ?_
    rintro e X1 ⟨rfl, hga⟩
    have hsX1 : G W4 X1 := hsD.trans hga
    refine hK _ _ (fun _ => hsX1) ?_
    clear hK K hga
    simp only [Act.put, List.setIfInBounds_toArray, List.set_cons_zero, List.set_cons_succ]
    refine hl_take_np 3 (by kernel_rfl) (by kernel_rfl) rfl (by kernel_rfl) hsX1 (v := ?_) ?_ ?_
    rotate_left
    · (rintro x hx; clear hx; go_simp; try rfl)
    simp only [Act.put, List.setIfInBounds_toArray, List.set_cons_zero, List.set_cons_succ]
    refine hl_take_np 4 (by kernel_rfl) (by kernel_rfl) rfl (by kernel_rfl) hsX1 (v := ?_) ?_ ?_
    rotate_left
    · (rintro x hx; clear hx; go_simp; try rfl)
    simp only [Act.put, List.setIfInBounds_toArray, List.set_cons_zero, List.set_cons_succ]
    refine hl_take_np 6 (by kernel_rfl) (by kernel_rfl) rfl (by kernel_rfl) hsX1 (v := ?_) ?_ ?_
    rotate_left
    · (rintro x hx; clear hx; go_simp; try rfl)
    simp only [Act.put, List.setIfInBounds_toArray, List.set_cons_zero, List.set_cons_succ]
    refine hl_take_np 7 (by kernel_rfl) (by kernel_rfl) rfl (by kernel_rfl) hsX1 (v := ?_) ?_ ?_
    rotate_left
    · (rintro x hx; clear hx; go_simp; try rfl)
    simp only [Act.put, List.setIfInBounds_toArray, List.set_cons_zero, List.set_cons_succ]
    refine hl_stepW 5 (by kernel_rfl) rfl (by kernel_rfl) ?_
    intro K hK
    go_simp
    refine (HLN.out X1 hsX1).mono ?_
    rintro e X2 ⟨rfl, hga⟩
    have hsX2 : G W4 X2 := hsX1.trans hga
    refine hK _ _ (fun _ => hsX2) ?_
    clear hK K hga
    simp only [Act.put, List.setIfInBounds_toArray, List.set_cons_zero, List.set_cons_succ]
    refine hl_take_np 8 (by kernel_rfl) (by kernel_rfl) rfl (by kernel_rfl) hsX2 (v := ?_) ?_ ?_
    rotate_left
    · (rintro x hx; have k_d0 := hx.cell d0; have k_d1 := hx.cell d1; have k_d2 := hx.cell d2; have k_d3 := hx.cell d3; have k_d4 := hx.cell d4; clear hx; go_simp; try rfl)
    simp only [Act.put, List.setIfInBounds_toArray, List.set_cons_zero, List.set_cons_succ]
    refine hl_take_np 9 (by kernel_rfl) (by kernel_rfl) rfl (by kernel_rfl) hsX2 (v := ?_) ?_ ?_
    rotate_left
    · (rintro x hx; have k_d0 := hx.cell d0; have k_d1 := hx.cell d1; have k_d2 := hx.cell d2; have k_d3 := hx.cell d3; have k_d4 := hx.cell d4; clear hx; go_simp; try rfl)
    simp only [Act.put, List.setIfInBounds_toArray, List.set_cons_zero, List.set_cons_succ]
    refine hl_take_np 10 (by kernel_rfl) (by kernel_rfl) rfl (by kernel_rfl) hsX2 (v := ?_) ?_ ?_
    rotate_left
    · (rintro x hx; have k_d0 := hx.cell d0; have k_d1 := hx.cell d1; have k_d2 := hx.cell d2; have k_d3 := hx.cell d3; have k_d4 := hx.cell d4; clear hx; go_simp; try rfl)
    simp only [Act.put, List.setIfInBounds_toArray, List.set_cons_zero, List.set_cons_succ]
    refine hl_take_np 11 (by kernel_rfl) (by kernel_rfl) rfl (by kernel_rfl) hsX2 (v := ?_) ?_ ?_
    rotate_left
    · (rintro x hx; have k_d0 := hx.cell d0; have k_d1 := hx.cell d1; have k_d2 := hx.cell d2; have k_d3 := hx.cell d3; have k_d4 := hx.cell d4; clear hx; go_simp; try rfl)
    simp only [Act.put, List.setIfInBounds_toArray, List.set_cons_zero, List.set_cons_succ]
    refine hl_take_np 12 (by kernel_rfl) (by kernel_rfl) rfl (by kernel_rfl) hsX2 (v := ?_) ?_ ?_
    rotate_left
    · (rintro x hx; have k_d0 := hx.cell d0; have k_d1 := hx.cell d1; have k_d2 := hx.cell d2; have k_d3 := hx.cell d3; have k_d4 := hx.cell d4; clear hx; go_simp; try rfl)
    simp only [Act.put, List.setIfInBounds_toArray, List.set_cons_zero, List.set_cons_succ]
    refine hl_take_np 14 (by kernel_rfl) (by kernel_rfl) rfl (by kernel_rfl) hsX2 (v := ?_) ?_ ?_
    rotate_left
    · (rintro x hx; have k_d0 := hx.cell d0; have k_d1 := hx.cell d1; have k_d2 := hx.cell d2; have k_d3 := hx.cell d3; have k_d4 := hx.cell d4; clear hx; go_simp; try rfl)
    simp only [Act.put, List.setIfInBounds_toArray, List.set_cons_zero, List.set_cons_succ]
    refine hl_take_np 15 (by kernel_rfl) (by kernel_rfl) rfl (by kernel_rfl) hsX2 (v := ?_) ?_ ?_
    rotate_left
    · (rintro x hx; have k_d0 := hx.cell d0; have k_d1 := hx.cell d1; have k_d2 := hx.cell d2; have k_d3 := hx.cell d3; have k_d4 := hx.cell d4; clear hx; go_simp; try rfl)
    simp only [Act.put, List.setIfInBounds_toArray, List.set_cons_zero, List.set_cons_succ]
    refine hl_stepW 13 (by kernel_rfl) rfl (by kernel_rfl) ?_
    intro K hK
    go_simp
    refine (HHA.out X2 hsX2).mono ?_
    rintro e X3 ⟨rfl, hga⟩
    have hsX3 : G W4 X3 := hsX2.trans hga
    refine hK _ _ (fun _ => hsX3) ?_
    clear hK K hga
    simp only [Act.put, List.setIfInBounds_toArray, List.set_cons_zero, List.set_cons_succ]
    refine hl_stepW 16 (by kernel_rfl) rfl (by kernel_rfl) ?_
    intro K hK
    go_simp
    refine (HRH.out X3 hsX3).mono ?_
    rintro e X4 ⟨rfl, hga⟩
    have hsX4 : G W4 X4 := hsX3.trans hga
    refine hK _ _ (fun _ => hsX4) ?_
    clear hK K hga
    simp only [Act.put, List.setIfInBounds_toArray, List.set_cons_zero, List.set_cons_succ]
    refine hl_take_np 17 (by kernel_rfl) (by kernel_rfl) rfl (by kernel_rfl) hsX4 (v := ?_) ?_ ?_
    rotate_left
    · (rintro x hx; have k_f0 := hx.cell f0; have k_f1 := hx.cell f1; have k_f2 := hx.cell f2; have k_f3 := hx.cell f3; have k_f4 := hx.cell f4; clear hx; go_simp; try rfl)
    simp only [Act.put, List.setIfInBounds_toArray, List.set_cons_zero, List.set_cons_succ]
    refine hl_take_np 18 (by kernel_rfl) (by kernel_rfl) rfl (by kernel_rfl) hsX4 (v := ?_) ?_ ?_
    rotate_left
    · (rintro x hx; have k_f0 := hx.cell f0; have k_f1 := hx.cell f1; have k_f2 := hx.cell f2; have k_f3 := hx.cell f3; have k_f4 := hx.cell f4; clear hx; go_simp; try rfl)
    simp only [Act.put, List.setIfInBounds_toArray, List.set_cons_zero, List.set_cons_succ]
    refine hl_take_np 19 (by kernel_rfl) (by kernel_rfl) rfl (by kernel_rfl) hsX4 (v := ?_) ?_ ?_
    rotate_left
    · (rintro x hx; have k_f0 := hx.cell f0; have k_f1 := hx.cell f1; have k_f2 := hx.cell f2; have k_f3 := hx.cell f3; have k_f4 := hx.cell f4; clear hx; go_simp; try rfl)
    simp only [Act.put, List.setIfInBounds_toArray, List.set_cons_zero, List.set_cons_succ]
    refine hl_take_np 20 (by kernel_rfl) (by kernel_rfl) rfl (by kernel_rfl) hsX4 (v := ?_) ?_ ?_
    rotate_left
    · (rintro x hx; have k_f0 := hx.cell f0; have k_f1 := hx.cell f1; have k_f2 := hx.cell f2; have k_f3 := hx.cell f3; have k_f4 := hx.cell f4; clear hx; go_simp; try rfl)
    simp only [Act.put, List.setIfInBounds_toArray, List.set_cons_zero, List.set_cons_succ]
    refine hl_take_np 21 (by kernel_rfl) (by kernel_rfl) rfl (by kernel_rfl) hsX4 (v := ?_) ?_ ?_
    rotate_left
    · (rintro x hx; have k_f0 := hx.cell f0; have k_f1 := hx.cell f1; have k_f2 := hx.cell f2; have k_f3 := hx.cell f3; have k_f4 := hx.cell f4; clear hx; go_simp; try rfl)
    simp only [Act.put, List.setIfInBounds_toArray, List.set_cons_zero, List.set_cons_succ]
    refine hl_take_np 22 (by kernel_rfl) (by kernel_rfl) rfl (by kernel_rfl) hsX4 (v := ?_) ?_ ?_
    rotate_left
    · (rintro x hx; have k_f0 := hx.cell f0; have k_f1 := hx.cell f1; have k_f2 := hx.cell f2; have k_f3 := hx.cell f3; have k_f4 := hx.cell f4; clear hx; go_simp; try rfl)
    simp only [Act.put, List.setIfInBounds_toArray, List.set_cons_zero, List.set_cons_succ]
    refine hl_take_np 23 (by kernel_rfl) (by kernel_rfl) rfl (by kernel_rfl) hsX4 (v := ?_) ?_ ?_
    rotate_left
    · (rintro x hx; have k_f0 := hx.cell f0; have k_f1 := hx.cell f1; have k_f2 := hx.cell f2; have k_f3 := hx.cell f3; have k_f4 := hx.cell f4; clear hx; go_simp; try rfl)
    simp only [Act.put, List.setIfInBounds_toArray, List.set_cons_zero, List.set_cons_succ]
    refine hl_take_np 24 (by kernel_rfl) (by kernel_rfl) rfl (by kernel_rfl) hsX4 (v := ?_) ?_ ?_
    rotate_left
    · (rintro x hx; have k_f0 := hx.cell f0; have k_f1 := hx.cell f1; have k_f2 := hx.cell f2; have k_f3 := hx.cell f3; have k_f4 := hx.cell f4; clear hx; go_simp; try rfl)
    simp only [Act.put, List.setIfInBounds_toArray, List.set_cons_zero, List.set_cons_succ]
    refine hl_take_np 25 (by kernel_rfl) (by kernel_rfl) rfl (by kernel_rfl) hsX4 (v := ?_) ?_ ?_
    rotate_left
    · (rintro x hx; have k_f0 := hx.cell f0; have k_f1 := hx.cell f1; have k_f2 := hx.cell f2; have k_f3 := hx.cell f3; have k_f4 := hx.cell f4; clear hx; go_simp; try rfl)
    simp only [Act.put, List.setIfInBounds_toArray, List.set_cons_zero, List.set_cons_succ]
    refine hl_take_np 26 (by kernel_rfl) (by kernel_rfl) rfl (by kernel_rfl) hsX4 (v := ?_) ?_ ?_
    rotate_left
    · (rintro x hx; have k_f0 := hx.cell f0; have k_f1 := hx.cell f1; have k_f2 := hx.cell f2; have k_f3 := hx.cell f3; have k_f4 := hx.cell f4; clear hx; go_simp; try rfl)
    simp only [Act.put, List.setIfInBounds_toArray, List.set_cons_zero, List.set_cons_succ]
    refine hl_take_np 27 (by kernel_rfl) (by kernel_rfl) rfl (by kernel_rfl) hsX4 (v := ?_) ?_ ?_
    rotate_left
    · (rintro x hx; have k_f0 := hx.cell f0; have k_f1 := hx.cell f1; have k_f2 := hx.cell f2; have k_f3 := hx.cell f3; have k_f4 := hx.cell f4; clear hx; go_simp; try rfl)
    simp only [Act.put, List.setIfInBounds_toArray, List.set_cons_zero, List.set_cons_succ]
    refine hl_take_np 28 (by kernel_rfl) (by kernel_rfl) rfl (by kernel_rfl) hsX4 (v := ?_) ?_ ?_
    rotate_left
    · (rintro x hx; have k_f0 := hx.cell f0; have k_f1 := hx.cell f1; have k_f2 := hx.cell f2; have k_f3 := hx.cell f3; have k_f4 := hx.cell f4; clear hx; go_simp; try rfl)
    simp only [Act.put, List.setIfInBounds_toArray, List.set_cons_zero, List.set_cons_succ]
    refine hl_take_np 29 (by kernel_rfl) (by kernel_rfl) rfl (by kernel_rfl) hsX4 (v := ?_) ?_ ?_
    rotate_left
    · (rintro x hx; have k_f0 := hx.cell f0; have k_f1 := hx.cell f1; have k_f2 := hx.cell f2; have k_f3 := hx.cell f3; have k_f4 := hx.cell f4; clear hx; go_simp; try rfl)
    simp only [Act.put, List.setIfInBounds_toArray, List.set_cons_zero, List.set_cons_succ]
    refine hl_take_np 30 (by kernel_rfl) (by kernel_rfl) rfl (by kernel_rfl) hsX4 (v := ?_) ?_ ?_
    rotate_left
    · (rintro x hx; have k_f0 := hx.cell f0; have k_f1 := hx.cell f1; have k_f2 := hx.cell f2; have k_f3 := hx.cell f3; have k_f4 := hx.cell f4; clear hx; go_simp; try rfl)
    simp only [Act.put, List.setIfInBounds_toArray, List.set_cons_zero, List.set_cons_succ]
    refine hl_take_np 31 (by kernel_rfl) (by kernel_rfl) rfl (by kernel_rfl) hsX4 (v := ?_) ?_ ?_
    rotate_left
    · (rintro x hx; have k_f0 := hx.cell f0; have k_f1 := hx.cell f1; have k_f2 := hx.cell f2; have k_f3 := hx.cell f3; have k_f4 := hx.cell f4; clear hx; go_simp; try rfl)
    simp only [Act.put, List.setIfInBounds_toArray, List.set_cons_zero, List.set_cons_succ]
    refine hl_stepW 32 (by kernel_rfl) rfl (by kernel_rfl) ?_
    intro K hK
    go_simp
    refine (HZ.out X4 hsX4).mono ?_
    rintro e X5 ⟨rfl, hga⟩
    have hsX5 : G W4 X5 := hsX4.trans hga
    refine hK _ _ (fun _ => hsX5) ?_
    clear hK K hga
    simp only [Act.put, List.setIfInBounds_toArray, List.set_cons_zero, List.set_cons_succ]
    refine hl_take_np 33 (by kernel_rfl) (by kernel_rfl) rfl (by kernel_rfl) hsX5 (v := ?_) ?_ ?_
    rotate_left
    · (rintro x hx; clear hx; go_simp; try rfl)
    simp only [Act.put, List.setIfInBounds_toArray, List.set_cons_zero, List.set_cons_succ]
    refine hl_take_np 34 (by kernel_rfl) (by kernel_rfl) rfl (by kernel_rfl) hsX5 (v := ?_) ?_ ?_
    rotate_left
    · (rintro x hx; clear hx; go_simp; try rfl)
    simp only [Act.put, List.setIfInBounds_toArray, List.set_cons_zero, List.set_cons_succ]
    refine hl_skip_np 35 (by kernel_rfl) (by kernel_rfl) rfl (by kernel_rfl) hsX5 ?_
    simp only [Act.put, List.setIfInBounds_toArray, List.set_cons_zero, List.set_cons_succ]
    refine hl_skip_np 36 (by kernel_rfl) (by kernel_rfl) rfl (by kernel_rfl) hsX5 ?_
    simp only [Act.put, List.setIfInBounds_toArray, List.set_cons_zero, List.set_cons_succ]
    refine hl_skip_np 37 (by kernel_rfl) (by kernel_rfl) rfl (by kernel_rfl) hsX5 ?_
    simp only [Act.put, List.setIfInBounds_toArray, List.set_cons_zero, List.set_cons_succ]
    refine hl_skip_np 38 (by kernel_rfl) (by kernel_rfl) rfl (by kernel_rfl) hsX5 ?_
    simp only [Act.put, List.setIfInBounds_toArray, List.set_cons_zero, List.set_cons_succ]
    refine hl_skip_np 39 (by kernel_rfl) (by kernel_rfl) rfl (by kernel_rfl) hsX5 ?_
    simp only [Act.put, List.setIfInBounds_toArray, List.set_cons_zero, List.set_cons_succ]
    refine hl_skip_np 40 (by kernel_rfl) (by kernel_rfl) rfl (by kernel_rfl) hsX5 ?_
    simp only [Act.put, List.setIfInBounds_toArray, List.set_cons_zero, List.set_cons_succ]
    refine hl_skip_np 41 (by kernel_rfl) (by kernel_rfl) rfl (by kernel_rfl) hsX5 ?_
    simp only [Act.put, List.setIfInBounds_toArray, List.set_cons_zero, List.set_cons_succ]
    refine hl_skip_np 42 (by kernel_rfl) (by kernel_rfl) rfl (by kernel_rfl) hsX5 ?_
    simp only [Act.put, List.setIfInBounds_toArray, List.set_cons_zero, List.set_cons_succ]
    refine hl_take_np 43 (by kernel_rfl) (by kernel_rfl) rfl (by kernel_rfl) hsX5 (v := ?_) ?_ ?_
    rotate_left
    · (rintro x hx; clear hx; go_simp; try rfl)
    simp only [Act.put, List.setIfInBounds_toArray, List.set_cons_zero, List.set_cons_succ]
    refine hl_take_np 44 (by kernel_rfl) (by kernel_rfl) rfl (by kernel_rfl) hsX5 (v := ?_) ?_ ?_
    rotate_left
    · (rintro x hx; clear hx; go_simp; try rfl)
    simp only [Act.put, List.setIfInBounds_toArray, List.set_cons_zero, List.set_cons_succ]
    refine hl_take_np 45 (by kernel_rfl) (by kernel_rfl) rfl (by kernel_rfl) hsX5 (v := ?_) ?_ ?_
    rotate_left
    · (rintro x hx; clear hx; go_simp; try rfl)
    simp only [Act.put, List.setIfInBounds_toArray, List.set_cons_zero, List.set_cons_succ]
    refine hl_done (by kernel_rfl) ?_ _
    refine NoPanic.normal (HQ0.out _ _ ?_)
    clear HQ0
    have HG5 := Lib.hid hsX5
    have hfb5 := HG5.out.block (heap_lt HFB.out) |>.trans HFB.out
    obtain ⟨g0, g1, g2, g3, g4⟩ := cells5 hfb5
    have HFB5 := Lib.hid hfb5
    clear hsD hsX1 hsX2 hsX3 hsX4 hsX5 hfb5 d0 d1 d2 d3 d4 f0 f1 f2 f3 f4
    go_wp2_with fail
    refine (HOV.out X5 HG5.out).mono ?_
    rintro e W6 ⟨⟨u6, rfl⟩, hf6, hk6⟩
    have hfb6 := (hf6.block _ (by have := heap_lt HFB5.out; exact this) HZN.out).trans HFB5.out
    obtain ⟨g0, g1, g2, g3, g4⟩ := cells5 hfb6
    have HF6 := Lib.hid hf6
    have HK6 := Lib.hid hk6
    clear hf6 hk6 hfb6
    go_wp2_with fail
    refine (HOF.out W6 ((Keeps.g HG5.out).trans HK6.out)).mono ?_
    rintro e W7 ⟨⟨u7, rfl⟩, hf7, -⟩
    have hgE : G w W7 := (((((HG4.out.trans HG5.out).fr (fun q => w.heap.size ≤ q)).trans HF6.out (fun q _ e => HZL.out q e)).trans hf7 (fun q _ e => HFL.out q e))).g (fun _ h => h)
    clear hf7
    go_wp2_with fail
    go_ret
    exact ⟨rfl, hgE⟩
  · have HSN := Lib.hid hsc
    obtain ⟨pf, nf, cf, hfv⟩ := hFown.isE
    have hEvF : ev FE = .agg #[.string FE.f, .string FE.t, .string FE.l, .int .i64 FE.tm, .slice pf nf cf] := by unfold ev; rw [hfv]
    rw [hEvF]
    have HFW := Lib.hid hFown
    have HFO := Lib.hid hFo
    have HEVF := Lib.hid hEvF
    have HFV := Lib.hid hfv
    clear hFown hFo hEvF hfv
    have d0 := hg3.cell d0
    have d1 := hg3.cell d1
    have d2 := hg3.cell d2
    have d3 := hg3.cell d3
    have d4 := hg3.cell d4
    have hgw3 := hgw2.trans hg3
    have hgA : G W3 (W3.alloc (.cells #[.string FE.f, .string FE.t, .string FE.l, .int .i64 FE.tm, .slice pf nf cf] 33)) := (G.refl W3).alloc _
    have HFB := Lib.hid (alloc_new W3 (.cells #[.string FE.f, .string FE.t, .string FE.l, .int .i64 FE.tm, .slice pf nf cf] 33))
    have d0 := hgA.cell d0
    have d1 := hgA.cell d1
    have d2 := hgA.cell d2
    have d3 := hgA.cell d3
    have d4 := hgA.cell d4
    have hsl0 : 0 < s.length := by rw [hsc]; simp
    have HMp : Hid (0 < M.length) := Lib.hid (by have := HL2.out; omega)
    clear hsc HFST
    go_upto_region 4 with fail
    generalize (W3.alloc (.cells #[.string FE.f, .string FE.t, .string FE.l, .int .i64 FE.tm, .slice pf nf cf] 33)) = W4 at hgA d0 d1 d2 d3 d4 HFB ⊢
    obtain ⟨f0, f1, f2, f3, f4⟩ := cells5 HFB.out
    have HG4 := Lib.hid (hgw3.trans hgA)
    have hg24 := hg3.trans hgA
    have HG24 := Lib.hid hg24
    have HSE : Hid (∀ X, G W4 X → Calls Try.prog 9 #[.slice p1 L1.length c1, .slice p2 M.length c2] X fun e w' => e = .returned (.bool true) ∧ G X w') := Lib.hid (fun X hX => by
      have h1 := HR1.out X ((HG12.out.trans hg24).trans hX)
      have h2 := HR2.out X (hg24.trans hX)
      have := sameEs_any L1 M _ _ X ⟨rdr_of_owns h1.1, fun F hF => (h1.2 F hF).at⟩ ⟨rdr_of_owns h2.1, fun F hF => (h2.2 F hF).at⟩ (by have := HL1.out; omega) (by have := HL2.out; omega)
      rw [sameL_refl (HM1.out.trans HM2.out.symm)] at this
      exact this)
    have HLN := Lib.hid (fun X (hX : G W4 X) => HLN0.out X (HG4.out.trans hX))
    have HHA := Lib.hid (fun X (hX : G W4 X) => HHA0.out X (HG4.out.trans hX))
    have HRH := Lib.hid (fun X (hX : G W4 X) => HRH0.out X (HG4.out.trans hX))
    have hM0 : 0 < M.length := HMp.out
    have hME : outE (eat M 0) = o := by
      have h1 := HM2.out
      rw [HSN.out] at h1
      have h2 : (M.map outE)[0]? = some (outE (eat M 0)) := by rw [List.getElem?_map, eat_get hM0]; rfl
      rw [h1] at h2
      exact (Option.some.inj h2).symm
    obtain ⟨bm, om, rfl, z0, z1, z2, z3, z4⟩ := cellsAt5 (rdr_of_owns (HR2.out W4 hg24).1) rfl hM0
    obtain ⟨px, nx, cx, hxv⟩ := ((HR2.out W4 hg24).2 (eat M 0) (List.mem_of_getElem? (eat_get hM0))).isE
    rw [hxv] at z4
    simp only [Nat.zero_mul, Nat.add_zero] at z0 z1 z2 z3 z4
    have HZ : Hid (∀ X, G W4 X → Calls Try.prog 23 #[.agg #[.string FE.f, .string FE.t, .string FE.l, .int .i64 FE.tm, .slice pf nf cf], .agg #[.string (eat M 0).f, .string (eat M 0).t, .string (eat M 0).l, .int .i64 (eat M 0).tm, .slice px nx cx]] X fun e w' => e = .returned (.bool true) ∧ G X w') := Lib.hid (fun X hX => by
      have h2 := (HR2.out X (hg24.trans hX)).2 (eat M 0) (List.mem_of_getElem? (eat_get hM0))
      have := sameE_any FE (eat M 0) X (HFW.out.g (hgA.trans hX)).at h2.at
      rw [sameE_iff.2 (by rw [hME]; exact HFO.out), HEVF.out] at this
      have h3 : ev (eat M 0) = .agg #[.string (eat M 0).f, .string (eat M 0).t, .string (eat M 0).l, .int .i64 (eat M 0).tm, .slice px nx cx] := by unfold ev; rw [hxv]
      rw [h3] at this
      exact this)
    generalize (eat M 0).f = xf at z0 HZ
    generalize (eat M 0).t = xt at z1 HZ
    generalize (eat M 0).l = xl at z2 HZ
    generalize (eat M 0).tm = xm at z3 HZ
    have hFps : FE.ps.length ≤ 1000000 := by
      have h1 := HPS.out o (by rw [HSN.out]; exact List.mem_cons_self ..)
      rw [← HFO.out] at h1; exact h1
    have HOV : Hid (∀ X, G W4 X → Calls Try.prog 11 #[.slice p1 L1.length c1] X fun e w' => (∃ u, e = .returned u) ∧ Fr (fun q => (Value.slice p1 L1.length c1).ownBlock = some q ∨ ∃ F ∈ L1, F.v.ownBlock = some q) X w' ∧ Keeps X w') := Lib.hid (fun X hX => by
      have h1 := HR1.out X ((HG12.out.trans HG24.out).trans hX)
      exact overEsZ_any _ L1 _ _ WB.heap.size X (fun g hg => .inl hg) (fun F hF g hg => .inr ⟨F, hF, hg⟩) h1.1 (fun F hF => ⟨F.ps.length, HPS.out (outE F) (by rw [← HM1.out]; exact List.mem_map.2 ⟨F, hF, rfl⟩), room_of (h1.2 F hF).own⟩) (by have := HL1.out; omega))
    have HOF : Hid (∀ X, Keeps W4 X → Calls Try.prog 17 #[.agg #[.string FE.f, .string FE.t, .string FE.l, .int .i64 FE.tm, .slice pf nf cf]] X fun e w' => (∃ u, e = .returned u) ∧ Fr (fun q => (Value.slice pf nf cf).ownBlock = some q) X w' ∧ Keeps X w') := Lib.hid (fun X hX => by
      have := overE_any FE FE.ps.length W2.heap.size X ((room_of (hgA.ownsRow HFW.out.own)).keeps hX) hFps
      rw [HEVF.out, HFV.out] at this
      exact this)
    have HFL : Hid (∀ q, (Value.slice pf nf cf).ownBlock = some q → w.heap.size ≤ q) := Lib.hid (fun q hq => by
      have h1 := HFW.out.own.lt q (by rw [HFV.out]; exact hq)
      have h2 := hgw2.size
      omega)
    have HZL : Hid (∀ q, ((Value.slice p1 L1.length c1).ownBlock = some q ∨ ∃ F ∈ L1, F.v.ownBlock = some q) → w.heap.size ≤ q) := Lib.hid (fun q hq => by
      rcases hq with e | ⟨F, hF, e⟩
      · have := (HOLT.out q e).1; omega
      · have := ((HO1.out F hF).own.lt q e).1; omega)
    have HZN : Hid (¬ ((Value.slice p1 L1.length c1).ownBlock = some W3.heap.size ∨ ∃ F ∈ L1, F.v.ownBlock = some W3.heap.size)) := Lib.hid (fun hq => by
      have hz3 := hg3.size
      rcases hq with e | ⟨F, hF, e⟩
      · have := (HOLT.out _ e).2; omega
      · have := ((HO1.out F hF).own.lt _ e).2; omega)
    clear hgw3 hgA hgw2 hgw1 hgB hg3 hg24 HLN0 HHA0 HRH0
    have HSLM : Hid (s.length = M.length) := Lib.hid HL2.out.symm
    rw [HSLM.out] at HLN
    generalize M.length = Mn at HSE HLN hM0 ⊢
    have hM1 : (0 : Int) < (Mn : Int) := by omega
    clear hME hxv hFps
    obtain ⟨WD, hWD⟩ : ∃ WD : World, WD = W4.drew := ⟨_, rfl⟩
    have hsD : G W4 WD := by rw [hWD]; exact (G.refl W4).drew
    refine region_hlW (fun w' => G W4 w') 99 46 (by kernel_rfl) rfl ?_
    intro Q0 HQ0
    simp only [List.replicate_succ, List.replicate_zero]
    rw [← hWD]
    clear hWD
    refine hl_take_np 0 (by kernel_rfl) (by kernel_rfl) rfl (by kernel_rfl) hsD (v := ?_) ?_ ?_
    rotate_left
    · (rintro x hx; clear hx; go_simp; try rfl)
    simp only [Act.put, List.setIfInBounds_toArray, List.set_cons_zero, List.set_cons_succ]
    refine hl_take_np 1 (by kernel_rfl) (by kernel_rfl) rfl (by kernel_rfl) hsD (v := ?_) ?_ ?_
    rotate_left
    · (rintro x hx; clear hx; go_simp; try rfl)
    simp only [Act.put, List.setIfInBounds_toArray, List.set_cons_zero, List.set_cons_succ]
    refine hl_stepW 2 (by kernel_rfl) rfl (by kernel_rfl) ?_
    intro K hK
    go_simp
    refine (HSE.out WD hsD).mono ?_
    rintro e X1 ⟨rfl, hga⟩
    have hsX1 : G W4 X1 := hsD.trans hga
    refine hK _ _ (fun _ => hsX1) ?_
    clear hK K hga
    simp only [Act.put, List.setIfInBounds_toArray, List.set_cons_zero, List.set_cons_succ]
    refine hl_take_np 3 (by kernel_rfl) (by kernel_rfl) rfl (by kernel_rfl) hsX1 (v := ?_) ?_ ?_
    rotate_left
    · (rintro x hx; clear hx; go_simp; try rfl)
    simp only [Act.put, List.setIfInBounds_toArray, List.set_cons_zero, List.set_cons_succ]
    refine hl_take_np 4 (by kernel_rfl) (by kernel_rfl) rfl (by kernel_rfl) hsX1 (v := ?_) ?_ ?_
    rotate_left
    · (rintro x hx; clear hx; go_simp; try rfl)
    simp only [Act.put, List.setIfInBounds_toArray, List.set_cons_zero, List.set_cons_succ]
    refine hl_take_np 6 (by kernel_rfl) (by kernel_rfl) rfl (by kernel_rfl) hsX1 (v := ?_) ?_ ?_
    rotate_left
    · (rintro x hx; clear hx; go_simp; try rfl)
    simp only [Act.put, List.setIfInBounds_toArray, List.set_cons_zero, List.set_cons_succ]
    refine hl_take_np 7 (by kernel_rfl) (by kernel_rfl) rfl (by kernel_rfl) hsX1 (v := ?_) ?_ ?_
    rotate_left
    · (rintro x hx; clear hx; go_simp; try rfl)
    simp only [Act.put, List.setIfInBounds_toArray, List.set_cons_zero, List.set_cons_succ]
    refine hl_stepW 5 (by kernel_rfl) rfl (by kernel_rfl) ?_
    intro K hK
    go_simp
    refine (HLN.out X1 hsX1).mono ?_
    rintro e X2 ⟨rfl, hga⟩
    have hsX2 : G W4 X2 := hsX1.trans hga
    refine hK _ _ (fun _ => hsX2) ?_
    clear hK K hga
    simp only [Act.put, List.setIfInBounds_toArray, List.set_cons_zero, List.set_cons_succ]
    refine hl_take_np 8 (by kernel_rfl) (by kernel_rfl) rfl (by kernel_rfl) hsX2 (v := ?_) ?_ ?_
    rotate_left
    · (rintro x hx; have k_d0 := hx.cell d0; have k_d1 := hx.cell d1; have k_d2 := hx.cell d2; have k_d3 := hx.cell d3; have k_d4 := hx.cell d4; clear hx; go_simp; try rfl)
    simp only [Act.put, List.setIfInBounds_toArray, List.set_cons_zero, List.set_cons_succ]
    refine hl_take_np 9 (by kernel_rfl) (by kernel_rfl) rfl (by kernel_rfl) hsX2 (v := ?_) ?_ ?_
    rotate_left
    · (rintro x hx; have k_d0 := hx.cell d0; have k_d1 := hx.cell d1; have k_d2 := hx.cell d2; have k_d3 := hx.cell d3; have k_d4 := hx.cell d4; clear hx; go_simp; try rfl)
    simp only [Act.put, List.setIfInBounds_toArray, List.set_cons_zero, List.set_cons_succ]
    refine hl_take_np 10 (by kernel_rfl) (by kernel_rfl) rfl (by kernel_rfl) hsX2 (v := ?_) ?_ ?_
    rotate_left
    · (rintro x hx; have k_d0 := hx.cell d0; have k_d1 := hx.cell d1; have k_d2 := hx.cell d2; have k_d3 := hx.cell d3; have k_d4 := hx.cell d4; clear hx; go_simp; try rfl)
    simp only [Act.put, List.setIfInBounds_toArray, List.set_cons_zero, List.set_cons_succ]
    refine hl_take_np 11 (by kernel_rfl) (by kernel_rfl) rfl (by kernel_rfl) hsX2 (v := ?_) ?_ ?_
    rotate_left
    · (rintro x hx; have k_d0 := hx.cell d0; have k_d1 := hx.cell d1; have k_d2 := hx.cell d2; have k_d3 := hx.cell d3; have k_d4 := hx.cell d4; clear hx; go_simp; try rfl)
    simp only [Act.put, List.setIfInBounds_toArray, List.set_cons_zero, List.set_cons_succ]
    refine hl_take_np 12 (by kernel_rfl) (by kernel_rfl) rfl (by kernel_rfl) hsX2 (v := ?_) ?_ ?_
    rotate_left
    · (rintro x hx; have k_d0 := hx.cell d0; have k_d1 := hx.cell d1; have k_d2 := hx.cell d2; have k_d3 := hx.cell d3; have k_d4 := hx.cell d4; clear hx; go_simp; try rfl)
    simp only [Act.put, List.setIfInBounds_toArray, List.set_cons_zero, List.set_cons_succ]
    refine hl_take_np 14 (by kernel_rfl) (by kernel_rfl) rfl (by kernel_rfl) hsX2 (v := ?_) ?_ ?_
    rotate_left
    · (rintro x hx; have k_d0 := hx.cell d0; have k_d1 := hx.cell d1; have k_d2 := hx.cell d2; have k_d3 := hx.cell d3; have k_d4 := hx.cell d4; clear hx; go_simp; try rfl)
    simp only [Act.put, List.setIfInBounds_toArray, List.set_cons_zero, List.set_cons_succ]
    refine hl_take_np 15 (by kernel_rfl) (by kernel_rfl) rfl (by kernel_rfl) hsX2 (v := ?_) ?_ ?_
    rotate_left
    · (rintro x hx; have k_d0 := hx.cell d0; have k_d1 := hx.cell d1; have k_d2 := hx.cell d2; have k_d3 := hx.cell d3; have k_d4 := hx.cell d4; clear hx; go_simp; try rfl)
    simp only [Act.put, List.setIfInBounds_toArray, List.set_cons_zero, List.set_cons_succ]
    refine hl_stepW 13 (by kernel_rfl) rfl (by kernel_rfl) ?_
    intro K hK
    go_simp
    refine (HHA.out X2 hsX2).mono ?_
    rintro e X3 ⟨rfl, hga⟩
    have hsX3 : G W4 X3 := hsX2.trans hga
    refine hK _ _ (fun _ => hsX3) ?_
    clear hK K hga
    simp only [Act.put, List.setIfInBounds_toArray, List.set_cons_zero, List.set_cons_succ]
    refine hl_stepW 16 (by kernel_rfl) rfl (by kernel_rfl) ?_
    intro K hK
    go_simp
    refine (HRH.out X3 hsX3).mono ?_
    rintro e X4 ⟨rfl, hga⟩
    have hsX4 : G W4 X4 := hsX3.trans hga
    refine hK _ _ (fun _ => hsX4) ?_
    clear hK K hga
    simp only [Act.put, List.setIfInBounds_toArray, List.set_cons_zero, List.set_cons_succ]
    refine hl_take_np 17 (by kernel_rfl) (by kernel_rfl) rfl (by kernel_rfl) hsX4 (v := ?_) ?_ ?_
    rotate_left
    · (rintro x hx; clear hx; go_simp; try rfl)
    simp only [Act.put, List.setIfInBounds_toArray, List.set_cons_zero, List.set_cons_succ]
    refine hl_take_np 18 (by kernel_rfl) (by kernel_rfl) rfl (by kernel_rfl) hsX4 (v := ?_) ?_ ?_
    rotate_left
    · (rintro x hx; clear hx; go_simp; try rfl)
    simp only [Act.put, List.setIfInBounds_toArray, List.set_cons_zero, List.set_cons_succ]
    refine hl_take_np 19 (by kernel_rfl) (by kernel_rfl) rfl (by kernel_rfl) hsX4 (v := ?_) ?_ ?_
    rotate_left
    · (rintro x hx; clear hx; go_simp; try rfl)
    simp only [Act.put, List.setIfInBounds_toArray, List.set_cons_zero, List.set_cons_succ]
    refine hl_take_np 20 (by kernel_rfl) (by kernel_rfl) rfl (by kernel_rfl) hsX4 (v := ?_) ?_ ?_
    rotate_left
    · (rintro x hx; clear hx; go_simp; try rfl)
    simp only [Act.put, List.setIfInBounds_toArray, List.set_cons_zero, List.set_cons_succ]
    refine hl_take_np 21 (by kernel_rfl) (by kernel_rfl) rfl (by kernel_rfl) hsX4 (v := ?_) ?_ ?_
    rotate_left
    · (rintro x hx; clear hx; go_simp; try rfl)
    simp only [Act.put, List.setIfInBounds_toArray, List.set_cons_zero, List.set_cons_succ]
    refine hl_take_np 22 (by kernel_rfl) (by kernel_rfl) rfl (by kernel_rfl) hsX4 (v := ?_) ?_ ?_
    rotate_left
    · (rintro x hx; clear hx; go_simp; try rfl)
    simp only [Act.put, List.setIfInBounds_toArray, List.set_cons_zero, List.set_cons_succ]
    refine hl_take_np 23 (by kernel_rfl) (by kernel_rfl) rfl (by kernel_rfl) hsX4 (v := ?_) ?_ ?_
    rotate_left
    · (rintro x hx; clear hx; go_simp; try rfl)
    simp only [Act.put, List.setIfInBounds_toArray, List.set_cons_zero, List.set_cons_succ]
    refine hl_take_np 24 (by kernel_rfl) (by kernel_rfl) rfl (by kernel_rfl) hsX4 (v := ?_) ?_ ?_
    rotate_left
    · (rintro x hx; clear hx; go_simp; try rfl)
    simp only [Act.put, List.setIfInBounds_toArray, List.set_cons_zero, List.set_cons_succ]
    refine hl_take_np 25 (by kernel_rfl) (by kernel_rfl) rfl (by kernel_rfl) hsX4 (v := ?_) ?_ ?_
    rotate_left
    · (rintro x hx; clear hx; go_simp; try rfl)
    simp only [Act.put, List.setIfInBounds_toArray, List.set_cons_zero, List.set_cons_succ]
    refine hl_take_np 26 (by kernel_rfl) (by kernel_rfl) rfl (by kernel_rfl) hsX4 (v := ?_) ?_ ?_
    rotate_left
    · (rintro x hx; clear hx; go_simp; try rfl)
    simp only [Act.put, List.setIfInBounds_toArray, List.set_cons_zero, List.set_cons_succ]
    refine hl_take_np 27 (by kernel_rfl) (by kernel_rfl) rfl (by kernel_rfl) hsX4 (v := ?_) ?_ ?_
    rotate_left
    · (rintro x hx; clear hx; go_simp; try rfl)
    simp only [Act.put, List.setIfInBounds_toArray, List.set_cons_zero, List.set_cons_succ]
    refine hl_take_np 28 (by kernel_rfl) (by kernel_rfl) rfl (by kernel_rfl) hsX4 (v := ?_) ?_ ?_
    rotate_left
    · (rintro x hx; clear hx; go_simp; try rfl)
    simp only [Act.put, List.setIfInBounds_toArray, List.set_cons_zero, List.set_cons_succ]
    refine hl_take_np 29 (by kernel_rfl) (by kernel_rfl) rfl (by kernel_rfl) hsX4 (v := ?_) ?_ ?_
    rotate_left
    · (rintro x hx; clear hx; go_simp; try rfl)
    simp only [Act.put, List.setIfInBounds_toArray, List.set_cons_zero, List.set_cons_succ]
    refine hl_skip_np 30 (by kernel_rfl) (by kernel_rfl) rfl (by kernel_rfl) hsX4 ?_
    simp only [Act.put, List.setIfInBounds_toArray, List.set_cons_zero, List.set_cons_succ]
    refine hl_skip_np 31 (by kernel_rfl) (by kernel_rfl) rfl (by kernel_rfl) hsX4 ?_
    simp only [Act.put, List.setIfInBounds_toArray, List.set_cons_zero, List.set_cons_succ]
    refine hl_skip_np 32 (by kernel_rfl) (by kernel_rfl) rfl (by kernel_rfl) hsX4 ?_
    simp only [Act.put, List.setIfInBounds_toArray, List.set_cons_zero, List.set_cons_succ]
    refine hl_take_np 33 (by kernel_rfl) (by kernel_rfl) rfl (by kernel_rfl) hsX4 (v := ?_) ?_ ?_
    rotate_left
    · (rintro x hx; have k_f0 := hx.cell f0; have k_f1 := hx.cell f1; have k_f2 := hx.cell f2; have k_f3 := hx.cell f3; have k_f4 := hx.cell f4; have k_z0 := hx.cell z0; have k_z1 := hx.cell z1; have k_z2 := hx.cell z2; have k_z3 := hx.cell z3; have k_z4 := hx.cell z4; clear hx; go_simp; try rfl)
    simp only [Act.put, List.setIfInBounds_toArray, List.set_cons_zero, List.set_cons_succ]
    refine hl_take_np 34 (by kernel_rfl) (by kernel_rfl) rfl (by kernel_rfl) hsX4 (v := ?_) ?_ ?_
    rotate_left
    · (rintro x hx; have k_f0 := hx.cell f0; have k_f1 := hx.cell f1; have k_f2 := hx.cell f2; have k_f3 := hx.cell f3; have k_f4 := hx.cell f4; have k_z0 := hx.cell z0; have k_z1 := hx.cell z1; have k_z2 := hx.cell z2; have k_z3 := hx.cell z3; have k_z4 := hx.cell z4; clear hx; go_simp; try rfl)
    simp only [Act.put, List.setIfInBounds_toArray, List.set_cons_zero, List.set_cons_succ]
    refine hl_take_np 35 (by kernel_rfl) (by kernel_rfl) rfl (by kernel_rfl) hsX4 (v := ?_) ?_ ?_
    rotate_left
    · (rintro x hx; have k_f0 := hx.cell f0; have k_f1 := hx.cell f1; have k_f2 := hx.cell f2; have k_f3 := hx.cell f3; have k_f4 := hx.cell f4; have k_z0 := hx.cell z0; have k_z1 := hx.cell z1; have k_z2 := hx.cell z2; have k_z3 := hx.cell z3; have k_z4 := hx.cell z4; clear hx; go_simp; try rfl)
    simp only [Act.put, List.setIfInBounds_toArray, List.set_cons_zero, List.set_cons_succ]
    refine hl_take_np 36 (by kernel_rfl) (by kernel_rfl) rfl (by kernel_rfl) hsX4 (v := ?_) ?_ ?_
    rotate_left
    · (rintro x hx; have k_f0 := hx.cell f0; have k_f1 := hx.cell f1; have k_f2 := hx.cell f2; have k_f3 := hx.cell f3; have k_f4 := hx.cell f4; have k_z0 := hx.cell z0; have k_z1 := hx.cell z1; have k_z2 := hx.cell z2; have k_z3 := hx.cell z3; have k_z4 := hx.cell z4; clear hx; go_simp; try rfl)
    simp only [Act.put, List.setIfInBounds_toArray, List.set_cons_zero, List.set_cons_succ]
    refine hl_take_np 37 (by kernel_rfl) (by kernel_rfl) rfl (by kernel_rfl) hsX4 (v := ?_) ?_ ?_
    rotate_left
    · (rintro x hx; have k_f0 := hx.cell f0; have k_f1 := hx.cell f1; have k_f2 := hx.cell f2; have k_f3 := hx.cell f3; have k_f4 := hx.cell f4; have k_z0 := hx.cell z0; have k_z1 := hx.cell z1; have k_z2 := hx.cell z2; have k_z3 := hx.cell z3; have k_z4 := hx.cell z4; clear hx; go_simp; try rfl)
    simp only [Act.put, List.setIfInBounds_toArray, List.set_cons_zero, List.set_cons_succ]
    refine hl_take_np 38 (by kernel_rfl) (by kernel_rfl) rfl (by kernel_rfl) hsX4 (v := ?_) ?_ ?_
    rotate_left
    · (rintro x hx; have k_f0 := hx.cell f0; have k_f1 := hx.cell f1; have k_f2 := hx.cell f2; have k_f3 := hx.cell f3; have k_f4 := hx.cell f4; have k_z0 := hx.cell z0; have k_z1 := hx.cell z1; have k_z2 := hx.cell z2; have k_z3 := hx.cell z3; have k_z4 := hx.cell z4; clear hx; go_simp; try rfl)
    simp only [Act.put, List.setIfInBounds_toArray, List.set_cons_zero, List.set_cons_succ]
    refine hl_take_np 39 (by kernel_rfl) (by kernel_rfl) rfl (by kernel_rfl) hsX4 (v := ?_) ?_ ?_
    rotate_left
    · (rintro x hx; have k_f0 := hx.cell f0; have k_f1 := hx.cell f1; have k_f2 := hx.cell f2; have k_f3 := hx.cell f3; have k_f4 := hx.cell f4; have k_z0 := hx.cell z0; have k_z1 := hx.cell z1; have k_z2 := hx.cell z2; have k_z3 := hx.cell z3; have k_z4 := hx.cell z4; clear hx; go_simp; try rfl)
    simp only [Act.put, List.setIfInBounds_toArray, List.set_cons_zero, List.set_cons_succ]
    refine hl_take_np 40 (by kernel_rfl) (by kernel_rfl) rfl (by kernel_rfl) hsX4 (v := ?_) ?_ ?_
    rotate_left
    · (rintro x hx; have k_f0 := hx.cell f0; have k_f1 := hx.cell f1; have k_f2 := hx.cell f2; have k_f3 := hx.cell f3; have k_f4 := hx.cell f4; have k_z0 := hx.cell z0; have k_z1 := hx.cell z1; have k_z2 := hx.cell z2; have k_z3 := hx.cell z3; have k_z4 := hx.cell z4; clear hx; go_simp; try rfl)
    simp only [Act.put, List.setIfInBounds_toArray, List.set_cons_zero, List.set_cons_succ]
    refine hl_stepW 41 (by kernel_rfl) rfl (by kernel_rfl) ?_
    intro K hK
    go_simp
    refine (HZ.out X4 hsX4).mono ?_
    rintro e X5 ⟨rfl, hga⟩
    have hsX5 : G W4 X5 := hsX4.trans hga
    refine hK _ _ (fun _ => hsX5) ?_
    clear hK K hga
    simp only [Act.put, List.setIfInBounds_toArray, List.set_cons_zero, List.set_cons_succ]
    refine hl_take_np 42 (by kernel_rfl) (by kernel_rfl) rfl (by kernel_rfl) hsX5 (v := ?_) ?_ ?_
    rotate_left
    · (rintro x hx; clear hx; go_simp; try rfl)
    simp only [Act.put, List.setIfInBounds_toArray, List.set_cons_zero, List.set_cons_succ]
    refine hl_take_np 43 (by kernel_rfl) (by kernel_rfl) rfl (by kernel_rfl) hsX5 (v := ?_) ?_ ?_
    rotate_left
    · (rintro x hx; clear hx; go_simp; try rfl)
    simp only [Act.put, List.setIfInBounds_toArray, List.set_cons_zero, List.set_cons_succ]
    refine hl_take_np 44 (by kernel_rfl) (by kernel_rfl) rfl (by kernel_rfl) hsX5 (v := ?_) ?_ ?_
    rotate_left
    · (rintro x hx; clear hx; go_simp; try rfl)
    simp only [Act.put, List.setIfInBounds_toArray, List.set_cons_zero, List.set_cons_succ]
    refine hl_take_np 45 (by kernel_rfl) (by kernel_rfl) rfl (by kernel_rfl) hsX5 (v := ?_) ?_ ?_
    rotate_left
    · (rintro x hx; clear hx; go_simp; try rfl)
    simp only [Act.put, List.setIfInBounds_toArray, List.set_cons_zero, List.set_cons_succ]
    refine hl_done (by kernel_rfl) ?_ _
    refine NoPanic.normal (HQ0.out _ _ ?_)
    clear HQ0
    have HG5 := Lib.hid hsX5
    have hfb5 := HG5.out.block (heap_lt HFB.out) |>.trans HFB.out
    obtain ⟨g0, g1, g2, g3, g4⟩ := cells5 hfb5
    have HFB5 := Lib.hid hfb5
    clear hsD hsX1 hsX2 hsX3 hsX4 hsX5 hfb5 d0 d1 d2 d3 d4 f0 f1 f2 f3 f4
    go_wp2_with fail
    refine (HOV.out X5 HG5.out).mono ?_
    rintro e W6 ⟨⟨u6, rfl⟩, hf6, hk6⟩
    have hfb6 := (hf6.block _ (by have := heap_lt HFB5.out; exact this) HZN.out).trans HFB5.out
    obtain ⟨g0, g1, g2, g3, g4⟩ := cells5 hfb6
    have HF6 := Lib.hid hf6
    have HK6 := Lib.hid hk6
    clear hf6 hk6 hfb6
    go_wp2_with fail
    refine (HOF.out W6 ((Keeps.g HG5.out).trans HK6.out)).mono ?_
    rintro e W7 ⟨⟨u7, rfl⟩, hf7, -⟩
    have hgE : G w W7 := (((((HG4.out.trans HG5.out).fr (fun q => w.heap.size ≤ q)).trans HF6.out (fun q _ e => HZL.out q e)).trans hf7 (fun q _ e => HFL.out q e))).g (fun _ h => h)
    clear hf7
    go_wp2_with fail
    go_ret
    exact ⟨rfl, hgE⟩
end Go.Proofs.Ytahdodijpmkddaa
