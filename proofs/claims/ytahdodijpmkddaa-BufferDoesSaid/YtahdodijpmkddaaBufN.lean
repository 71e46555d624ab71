/- the buffer: New, First, Len -/
import Derived.Test.YtahdodijpmkddaaBufT
set_option maxRecDepth 10000
namespace Go.Proofs.Ytahdodijpmkddaa
set_option linter.unusedVariables false
set_option linter.unusedSimpArgs false
open Go.RowKit Go.Shelf
attribute [local go_sem] Oper.semAt_some

abbrev ZE : Value := .agg #[.string ⟨#[]⟩, .string ⟨#[]⟩, .string ⟨#[]⟩, .int .i64 0, .slice none 0 0]
theorem bnew_any (w : World) : Calls Try.prog 6 #[] w fun e w' => ∃ B S p, e = .returned (.pointer (some ⟨B, 0, none⟩)) ∧ BufIn S (fun _ => False) w' B [] p ∧ (∀ k, S k → w.heap.size ≤ k) ∧ G w w' := by
  have HN := Lib.hid (new_any [] (.slice none 0 0) w (Rdr.nil _ _ _ _) (by simp))
  go_enter Try.func6, Try.ntmps6
  go_wp2_with fail
  refine HN.out.mono ?_
  rintro e w1 ⟨rfl, ⟨v, SH, hat, hSH⟩, hg1⟩
  have hz := hg1.size
  have hHl := hat.lt _ hat.inB
  have HB : Hid (∃ S p, BufIn S (fun _ => False) ((w1.alloc (.map #[] 0)).alloc (.cells #[.pointer (some ⟨w.heap.size, 0, none⟩), .map (some w1.heap.size)] 56)) (w1.heap.size + 1) [] p ∧ (∀ k, S k → w.heap.size ≤ k)) := by
    have g1 : G w1 (w1.alloc (.map #[] 0)) := (G.refl _).alloc _
    have g2 : G w1 ((w1.alloc (.map #[] 0)).alloc (.cells #[.pointer (some ⟨w.heap.size, 0, none⟩), .map (some w1.heap.size)] 56)) := g1.alloc _
    have hbx := alloc_new (w1.alloc (.map #[] 0)) (.cells #[.pointer (some ⟨w.heap.size, 0, none⟩), .map (some w1.heap.size)] 56)
    rw [World.size_alloc] at hbx
    refine Lib.hid ⟨fun k => SH k ∨ k = w1.heap.size ∨ k = w1.heap.size + 1, ⟨w.heap.size, w1.heap.size, v, [], [], SH, fun _ => NOR, [], fun _ => []⟩, ⟨hbx, hat.g g2, ⟨HL.nil, List.nodup_nil, fun x hx => (by cases hx), fun t => (by simp)⟩, (MapS.made w1).g ((G.refl _).alloc _), fun t => .inl ⟨rfl, rfl⟩, fun t => rfl, fun t => (by simp), List.Pairwise.nil, fun t E hE => (by cases hE), fun t u g hg => (by cases hg), .inr (.inr rfl), .inr (.inl rfl), fun k hk => .inl hk, fun t g hg => (by cases hg), fun hc => ?_, fun hc => ?_, fun t g hg => (by cases hg), fun o ho => (by cases ho), fun k _ h => h, fun k hk => ?_⟩, fun k hk => ?_⟩
    · have h1 : w1.heap.size + 1 < w1.heap.size := hat.lt _ hc
      omega
    · have h1 : w1.heap.size < w1.heap.size := hat.lt _ hc
      omega
    · simp only [World.size_alloc]
      rcases hk with (e | e | e) | e
      · have := hat.lt k e; omega
      · omega
      · omega
      · exact e.elim
    · rcases hk with e | e | e
      · exact hSH k e
      · omega
      · omega
  have hgE : G w ((w1.alloc (.map #[] 0)).alloc (.cells #[.pointer (some ⟨w.heap.size, 0, none⟩), .map (some w1.heap.size)] 56)) := (hg1.alloc _).alloc _
  clear hat hSH HN hg1
  have hmk : (Instr.makeMap 54 none).run Try.prog w1 = .ok (.map (some w1.heap.size)) (w1.alloc (.map #[] 0)) := by
    simp [Instr.makeMap, run_underlying Try.underlying54]
  go_wp2_with fail
  obtain ⟨S, p, hb, hS⟩ := HB.out
  refine bodyPost_ret (v := .pointer (some ⟨w1.heap.size + 1, 0, none⟩)) ?_ rfl ⟨_, S, p, rfl, hb, hS, hgE⟩
  simp [results, Try.results6, go_sem]
/-- what First shows -/
def FirstOut (s : List Out) (w : World) (e : Ending) (w' : World) : Prop :=
  (s = [] ∧ e = .returned (.tuple #[ZE, .bool false]) ∧ G w w') ∨ ∃ o s2 E, s = o :: s2 ∧ e = .returned (.tuple #[ev E, .bool true]) ∧ outE E = o ∧ OwnE w' w.heap.size E ∧ G w w'
set_option maxHeartbeats 4000000 in
theorem bfst_any (S P : Nat → Prop) (B : Nat) (s : List Out) (p : Bp) (w : World) (h : BufIn S P w B s p) (hps : ∀ o ∈ s, o.2.2.2.2.length ≤ 1000000) (hn : s.length ≤ 1000000) :
    Calls Try.prog 41 #[.pointer (some ⟨B, 0, none⟩)] w (FirstOut s w) := by
  obtain ⟨bc0, bc1⟩ := box2b h
  have hgB : G w (w.alloc (.cells #[.string ⟨#[]⟩, .string ⟨#[]⟩, .string ⟨#[]⟩, .int .i64 0, .slice none 0 0] 33)) := (G.refl w).alloc _
  have HDB := alloc_new w (.cells #[.string ⟨#[]⟩, .string ⟨#[]⟩, .string ⟨#[]⟩, .int .i64 0, .slice none 0 0] 33)
  have hfst := h.hk.first h.keys h.str
  have HH := Lib.hid (h.g hgB)
  have hlk : ∀ t, InR t → (Instr.lookup 54 (.map (some p.M)) (.int .i64 t) false).run Try.prog (w.alloc (.cells #[.string ⟨#[]⟩, .string ⟨#[]⟩, .string ⟨#[]⟩, .int .i64 0, .slice none 0 0] 33)) = .ok (p.m t) (w.alloc (.cells #[.string ⟨#[]⟩, .string ⟨#[]⟩, .string ⟨#[]⟩, .int .i64 0, .slice none 0 0] 33)) := fun t ht => ((h.map.g hgB).look ht).1
  have HSS := Lib.hid h.str
  clear h hlk
  go_enter Try.func41, Try.ntmps41
  go_upto_region 1 with fail
  have bc1 := hgB.cell bc1
  have bc0 := hgB.cell bc0
  generalize (w.alloc (.cells #[.string ⟨#[]⟩, .string ⟨#[]⟩, .string ⟨#[]⟩, .int .i64 0, .slice none 0 0] 33)) = WB at hgB bc0 bc1 HDB HH ⊢
  go_wp2_with fail
  refine (bmade_any bc1).mono ?_
  rintro e w' ⟨rfl, rfl⟩
  go_wp2_with fail
  refine (bfirst_any p.SH p.H p.v p.hs WB HH.out.hat).mono ?_
  rintro e W2 ⟨rfl, hg2⟩
  have HD2 := (hg2.block (heap_lt HDB)).trans HDB
  have bc0 := hg2.cell bc0
  have bc1 := hg2.cell bc1
  have HH2 := Lib.hid (HH.out.g hg2)
  have hgw := hgB.trans hg2
  clear HH hg2 hgB HDB
  obtain ⟨c0, c1, c2, c3, c4⟩ := cells5 HD2
  have y0 : W2.frozen? ⟨w.heap.size, 0, none⟩ = false := by unfold World.frozen?; rw [HD2]; simp
  have y1 : W2.frozen? ⟨w.heap.size, 1, none⟩ = false := by unfold World.frozen?; rw [HD2]; simp
  have y2 : W2.frozen? ⟨w.heap.size, 2, none⟩ = false := by unfold World.frozen?; rw [HD2]; simp
  have y3 : W2.frozen? ⟨w.heap.size, 3, none⟩ = false := by unfold World.frozen?; rw [HD2]; simp
  have y5 : W2.frozen? ⟨w.heap.size, 4, none⟩ = false := by unfold World.frozen?; rw [HD2]; simp
  cases hs : s with
  | nil =>
    have hib := hfst.1 hs
    obtain ⟨hf8, hr8⟩ := set5f HD2 (.string ⟨#[]⟩) (.string ⟨#[]⟩) (.string ⟨#[]⟩) (.int .i64 0) (.slice none 0 0)
    obtain ⟨q0, q1, q2, q3, q4⟩ := cells5 hr8
    have hgF : G w (((((W2.setCell ⟨w.heap.size, 0, none⟩ (.string ⟨#[]⟩)).setCell ⟨w.heap.size, 1, none⟩ (.string ⟨#[]⟩)).setCell ⟨w.heap.size, 2, none⟩ (.string ⟨#[]⟩)).setCell ⟨w.heap.size, 3, none⟩ (.int .i64 0)).setCell ⟨w.heap.size, 4, none⟩ (.slice none 0 0)) := ((hgw.fr (fun q => w.heap.size ≤ q)).trans hf8 (fun q _ e => by have e2 : q = w.heap.size := e; omega)).g (fun _ h => h)
    clear hf8 hr8 HD2 HH2
    go_wp2_with fail
    refine bodyPost_ret (v := .tuple #[ZE, .bool false]) ?_ rfl (.inl ⟨hs, rfl, hgF⟩)
    simp [results, Try.results41, go_sem, q0, q1, q2, q3, q4]
  | cons o s2 =>
    subst hs
    obtain ⟨hib, hat0, -, -⟩ := hfst.2 o s2 rfl
    have hx : (at' p.hs 0).1 = otm o := by rw [hat0]
    obtain ⟨t, htt⟩ : ∃ t, t = otm o := ⟨_, rfl⟩
    have hgr : gr t (o :: s2) = o :: gr t s2 := by rw [gr_cons, if_pos htt.symm]
    have hout := HH2.out.out t
    rw [hgr] at hout
    obtain ⟨E1, R1, hR, ho1⟩ : ∃ E1 R1, p.R t = E1 :: R1 ∧ outE E1 = o := by
      cases hc : p.R t with
      | nil => rw [hc] at hout; cases hout
      | cons E1 R1 =>
        rw [hc, List.map_cons] at hout
        exact ⟨E1, R1, rfl, (List.cons.inj hout).1⟩
    obtain ⟨g, off, c, hrow, hra⟩ : ∃ g off c, p.m t = .slice (some ⟨g, off, none⟩) (R1.length + 1) c ∧ RowAt W2 g off (R1.length + 1) c (E1 :: R1) := by
      rcases HH2.out.rows t with ⟨-, e⟩ | ⟨g, off, c, e, hr⟩
      · rw [hR] at e; cases e
      · rw [hR] at e hr; exact ⟨g, off, c, e, hr⟩
    have hEA := (HH2.out.props t E1 (by rw [hR]; exact List.mem_cons_self ..)).1
    obtain ⟨pe, ne, ce, hev1⟩ := hEA.isE
    have z0 : W2.cell? ⟨g, off, none⟩ = some (.string E1.f) := hra.cell (j := 0) rfl
    have z1 : W2.cell? ⟨g, off + 1, none⟩ = some (.string E1.t) := hra.cell (j := 1) rfl
    have z2 : W2.cell? ⟨g, off + 2, none⟩ = some (.string E1.l) := hra.cell (j := 2) rfl
    have z3 : W2.cell? ⟨g, off + 3, none⟩ = some (.int .i64 E1.tm) := hra.cell (j := 3) rfl
    have z4 : W2.cell? ⟨g, off + 4, none⟩ = some (.slice pe ne ce) := by have := hra.cell (j := 4) (v := E1.v) rfl; rw [hev1] at this; exact this
    have hnp : E1.ps.length ≤ 1000000 := by have := hps o (List.mem_cons_self ..); rw [← ho1] at this; exact this
    have HCP := Lib.hid (copied_any E1 W2 hEA hnp)
    have hEv1 : ev E1 = .agg #[.string E1.f, .string E1.t, .string E1.l, .int .i64 E1.tm, .slice pe ne ce] := by unfold ev; rw [hev1]
    rw [hEv1] at HCP
    have hlk := (HH2.out.map.look (t := t) (by rw [htt]; exact HH2.out.rng o (List.mem_cons_self ..))).1
    rw [hrow] at hlk
    rw [← htt] at hx
    obtain ⟨x, hxx⟩ : ∃ x, x = at' p.hs 0 := ⟨_, rfl⟩
    rw [← hxx] at hx ⊢
    have hn0 : 0 < R1.length + 1 := by omega
    generalize R1.length + 1 = n at hlk hn0
    have hHO := Lib.hid ho1
    clear hra hrow hR hout hgr hEA hat0 hfst hps HSS hn hxx hev1 htt
    go_wp2_with fail
    refine HCP.out.mono ?_
    rintro e W4 ⟨u, rfl, hown, hg4⟩
    have HD4 := (hg4.block (heap_lt HD2)).trans HD2
    obtain ⟨up, uc, hu⟩ := ownsRow_shape hown.own
    have hev2 : ev (lentE E1 u) = .agg #[.string E1.f, .string E1.t, .string E1.l, .int .i64 E1.tm, .slice up (lentE E1 u).ps.length uc] := by
      have h1 : (lentE E1 u).v = .slice up (lentE E1 u).ps.length uc := hu
      unfold ev; rw [h1]; rfl
    have HEV2 := Lib.hid hev2
    rw [hev2]
    have hul : ∀ q, u.ownBlock = some q → W2.heap.size ≤ q := fun q hq => (hown.own.lt q hq).1
    have hz2 := heap_lt HD2
    have hwz := hgw.size
    have hFin : Hid (∀ W8, Fr (fun q => q = w.heap.size) W4 W8 → FirstOut (o :: s2) w (.returned (.tuple #[ev (lentE E1 u), .bool true])) W8) := Lib.hid (fun W8 hf8 => by
      refine .inr ⟨o, s2, lentE E1 u, rfl, rfl, hHO.out, ?_, (((hgw.trans hg4).fr (fun q => w.heap.size ≤ q)).trans hf8 (fun q _ e => by have e2 : q = w.heap.size := e; omega)).g (fun _ h => h)⟩
      have h1 := hown.fr hf8 (fun q hq e => by have := hul q hq; omega)
      exact ⟨ownsRow_mono h1.own hwz, h1.n, h1.ps, h1.f, h1.t, h1.l⟩)
    generalize (lentE E1 u).ps.length = un at HEV2 ⊢
    clear hown hu hev2 hul HCP HD2 z0 z1 z2 z3 z4 hEv1 c0 c1 c2 c3 c4 y0 y1 y2 y3 y5 HH2 hlk bc0 bc1
    obtain ⟨c0, c1, c2, c3, c4⟩ := cells5 HD4
    have y0 : W4.frozen? ⟨w.heap.size, 0, none⟩ = false := by unfold World.frozen?; rw [HD4]; simp
    have y1 : W4.frozen? ⟨w.heap.size, 1, none⟩ = false := by unfold World.frozen?; rw [HD4]; simp
    have y2 : W4.frozen? ⟨w.heap.size, 2, none⟩ = false := by unfold World.frozen?; rw [HD4]; simp
    have y3 : W4.frozen? ⟨w.heap.size, 3, none⟩ = false := by unfold World.frozen?; rw [HD4]; simp
    have y5 : W4.frozen? ⟨w.heap.size, 4, none⟩ = false := by unfold World.frozen?; rw [HD4]; simp
    obtain ⟨hf8, hr8⟩ := set5f HD4 (.string E1.f) (.string E1.t) (.string E1.l) (.int .i64 E1.tm) (.slice up un uc)
    obtain ⟨q0, q1, q2, q3, q4⟩ := cells5 hr8
    obtain ⟨WF, hWF⟩ : ∃ X : World, X = (((((W4.setCell ⟨w.heap.size, 0, none⟩ (.string E1.f)).setCell ⟨w.heap.size, 1, none⟩ (.string E1.t)).setCell ⟨w.heap.size, 2, none⟩ (.string E1.l)).setCell ⟨w.heap.size, 3, none⟩ (.int .i64 E1.tm)).setCell ⟨w.heap.size, 4, none⟩ (.slice up un uc)) := ⟨_, rfl⟩
    have HWF := Lib.hid hWF
    rw [← hWF] at hf8 q0 q1 q2 q3 q4
    have hFF := hFin.out WF hf8
    rw [HEV2.out] at hFF
    clear hr8 hWF hFin HEV2
    go_wp2_with fail
    rw [← HWF.out]
    refine bodyPost_ret (v := .tuple #[.agg #[.string E1.f, .string E1.t, .string E1.l, .int .i64 E1.tm, .slice up un uc], .bool true]) ?_ rfl hFF
    simp [results, Try.results41, go_sem, q0, q1, q2, q3, q4]
end Go.Proofs.Ytahdodijpmkddaa
