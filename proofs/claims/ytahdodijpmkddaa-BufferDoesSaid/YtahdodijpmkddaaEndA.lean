/- laid together: EndA -/
import Derived.Test.YtahdodijpmkddaaEdgeX
import Derived.Test.YtahdodijpmkddaaSortKe
set_option maxRecDepth 10000
/- EdgeEnds: copies; a row of edges that is written -/
namespace Go.Proofs.Ytahdodijpmkddaa
set_option linter.unusedVariables false
set_option linter.unusedSimpArgs false
open Go.RowKit Go.Shelf
attribute [local go_sem] Oper.semAt_some

theorem copyP_any (l : List Prp) (p : Option Addr) (c : Nat) (w : World) (hv : Rdr w 4 (.slice p l.length c) l.length (pcells l)) (hn : l.length ≤ 1000000) :
    Calls Try.prog 68 #[.slice p l.length c] w fun e w' => ∃ u, e = .returned u ∧ w'.ownsRow w.heap.size 86 4 u l.length (pcells l) ∧ G w w' := by
  have HV := Lib.hid hv
  obtain ⟨i0, hi, hz0, hz1, hz2⟩ := info_parts infoP
  have HO := Lib.hid (pcells_one l)
  clear hv
  go_enter Try.func68, Try.ntmps68
  go_wp2_with (at_builtin; refine wpList_appendR _ rfl _ _ 31 rfl w.heap.size 86 i0 (.agg #[.string ⟨#[]⟩, .int .i64 0, .int .i64 0, .string ⟨#[]⟩]) 4 48 Try.underlying31 hi hz0 hz1 hz2 rfl (by decide) (.slice none 0 0) 0 [] rfl (World.ownsRow_nil _ _ _ _) (.slice p l.length c) l.length (pcells l) rfl HV.out HO.out (by unfold maxLen; omega) (by omega) (Nat.le_refl _) ?_; intro mp mc w1 hown1 hgrow1 hat1)
  simp only [Nat.zero_add, List.nil_append] at hown1 hat1 ⊢
  have hg1 : G w w1 := (G.refl w).grown hgrow1 (fun k h => by cases h)
  go_wp2_with fail
  go_ret
  exact ⟨_, rfl, hown1, hg1⟩
set_option maxHeartbeats 1000000 in
theorem copyE_any (E : Edg) (w : World) (h : EdgAt w E) (hn : E.ps.length ≤ 1000000) :
    Calls Try.prog 37 #[ev E] w fun e w' => ∃ u, e = .returned (ev (lentE E u)) ∧ OwnE w' w.heap.size (lentE E u) ∧ G w w' := by
  obtain ⟨f, t, l, tm, v, ps⟩ := E
  obtain ⟨-, p, c, hv, -⟩ := id h.rdr
  simp only at hv hn
  subst hv
  obtain ⟨W1, hW1⟩ : ∃ X : World, X = (w.alloc (.cells #[.string f, .string t, .string l, .int .i64 tm, .slice p ps.length c] 33)).alloc (.cells #[.string ⟨#[]⟩, .string ⟨#[]⟩, .string ⟨#[]⟩, .int .i64 0, .slice none 0 0] 33) := ⟨_, rfl⟩
  obtain ⟨hg1, hb1, hb2⟩ := boxes w #[.string f, .string t, .string l, .int .i64 tm, .slice p ps.length c] #[.string ⟨#[]⟩, .string ⟨#[]⟩, .string ⟨#[]⟩, .int .i64 0, .slice none 0 0] 33
  rw [← hW1] at hg1 hb1 hb2
  have HCP := Lib.hid (copyP_any ps p c W1 ((h.g hg1).rdr) hn)
  have H := Lib.hid h
  have HW1 := Lib.hid hW1
  have HB1 := Lib.hid hb1
  have HB2 := Lib.hid hb2
  have HG1 := Lib.hid hg1
  obtain ⟨n, hnn⟩ : ∃ n, n = ps.length := ⟨_, rfl⟩
  rw [← hnn] at HCP HW1 HB1
  have HN := Lib.hid hnn
  unfold ev
  simp only
  rw [← hnn]
  clear h hW1 hb1 hb2 hg1 hnn hn
  go_enter Try.func37, Try.ntmps37
  go_upto_region 1 with fail
  try simp only [World.size_alloc]
  rw [← HW1.out]
  obtain ⟨a0, a1, a2, a3, a4⟩ := cells5 HB1.out
  go_wp2_with fail
  refine HCP.out.mono ?_
  rintro e W2 ⟨u, rfl, hown, hg2⟩
  have hb1 := (hg2.block (heap_lt HB1.out)).trans HB1.out
  have hb2 := (hg2.block (heap_lt HB2.out)).trans HB2.out
  have hz1 := heap_lt HB1.out
  have hz2 := heap_lt HB2.out
  have y4 : W2.frozen? ⟨w.heap.size, 4, none⟩ = false := by unfold World.frozen?; rw [hb1]; simp
  obtain ⟨up, uc, rfl⟩ := ownsRow_shape hown
  have HO := Lib.hid hown
  obtain ⟨W3, hW3⟩ : ∃ X : World, X = W2.setCell ⟨w.heap.size, 4, none⟩ (.slice up n uc) := ⟨_, rfl⟩
  have hb3 : W3.heap[w.heap.size]? = some (.cells #[.string f, .string t, .string l, .int .i64 tm, .slice up n uc] 33 (0, 0)) := by rw [hW3]; exact heap_setCell_at _ _ 4 _ _ _ _ hb1
  have g3 : G w W3 := by rw [hW3]; exact (HG1.out.trans hg2).setCell (Nat.le_refl _) _
  have hc3 : W3.heap[w.heap.size + 1]? = some (.cells #[.string ⟨#[]⟩, .string ⟨#[]⟩, .string ⟨#[]⟩, .int .i64 0, .slice none 0 0] 33 (0, 0)) := by rw [hW3]; exact ((Fr.refl (fun q => q = w.heap.size) W2).setCell (p := ⟨w.heap.size, 4, none⟩) (.inl rfl) _).block _ (heap_lt hb2) (by omega) |>.trans hb2
  have hown3 : W3.ownsRow W1.heap.size 86 4 (.slice up n uc) n (pcells ps) := by rw [hW3]; exact ownsRow_setCell_below hown hz1 _
  have HW3 := Lib.hid hW3
  have HB3 := Lib.hid hb3
  have HC3 := Lib.hid hc3
  have HG3 := Lib.hid g3
  have HO3 := Lib.hid hown3
  have z4 := hg2.cell a4
  clear a0 a1 a2 a3 a4 hb1 hb2 hb3 hc3 g3 hown hown3 hW3 hg2 HO HCP
  go_upto_region 2 with fail
  rw [← HW3.out]
  clear z4
  obtain ⟨a0, a1, a2, a3, a4⟩ := cells5 HB3.out
  obtain ⟨c0, c1, c2, c3, c4⟩ := cells5 HC3.out
  have hb := HC3.out
  have y0 : W3.frozen? ⟨w.heap.size + 1, 0, none⟩ = false := by unfold World.frozen?; rw [hb]; simp
  have y1 : W3.frozen? ⟨w.heap.size + 1, 1, none⟩ = false := by unfold World.frozen?; rw [hb]; simp
  have y2 : W3.frozen? ⟨w.heap.size + 1, 2, none⟩ = false := by unfold World.frozen?; rw [hb]; simp
  have y3 : W3.frozen? ⟨w.heap.size + 1, 3, none⟩ = false := by unfold World.frozen?; rw [hb]; simp
  have y5 : W3.frozen? ⟨w.heap.size + 1, 4, none⟩ = false := by unfold World.frozen?; rw [hb]; simp
  obtain ⟨hgF, hrF⟩ := set5 HG3.out (show w.heap.size ≤ w.heap.size + 1 by omega) hb (.string f) (.string t) (.string l) (.int .i64 tm) (.slice up n uc)
  have hfF : G W1 W1 := G.refl _
  obtain ⟨q0, q1, q2, q3, q4⟩ := cells5 hrF
  obtain ⟨WF, hWF⟩ : ∃ X : World, X = (((((W3.setCell ⟨w.heap.size + 1, 0, none⟩ (.string f)).setCell ⟨w.heap.size + 1, 1, none⟩ (.string t)).setCell ⟨w.heap.size + 1, 2, none⟩ (.string l)).setCell ⟨w.heap.size + 1, 3, none⟩ (.int .i64 tm)).setCell ⟨w.heap.size + 1, 4, none⟩ (.slice up n uc)) := ⟨_, rfl⟩
  have HOF := Lib.hid (show OwnE WF w.heap.size (lentE ⟨f, t, l, tm, .slice p ps.length c, ps⟩ (.slice up n uc)) from by
    refine ⟨?_, H.out.n, H.out.ps, H.out.f, H.out.t, H.out.l⟩
    show WF.ownsRow w.heap.size 86 4 (.slice up n uc) ps.length (pcells ps)
    rw [← HN.out, hWF]
    exact ownsRow_mono (ownsRow_setCell_below (ownsRow_setCell_below (ownsRow_setCell_below (ownsRow_setCell_below (ownsRow_setCell_below HO3.out hz2 _) hz2 _) hz2 _) hz2 _) hz2 _) HG1.out.size)
  have HWF := Lib.hid hWF
  rw [← hWF] at hgF q0 q1 q2 q3 q4
  clear hb hrF hWF hfF
  go_wp2_with fail
  rw [← HWF.out]
  refine bodyPost_ret (v := .agg #[.string f, .string t, .string l, .int .i64 tm, .slice up n uc]) ?_ rfl ⟨_, rfl, HOF.out, hgF⟩
  simp [results, Try.results37, go_sem, q0, q1, q2, q3, q4]
/-- block g holds a row of edges, each with two props in a block of its own; all of it to be written -/
structure EdRow (W : World) (base g n c : Nat) (L : List Edg) : Prop where
  row : W.ownsRow base 33 5 (.slice (some ⟨g, 0, none⟩) n c) n (ecs L)
  each : ∀ E ∈ L, OwnE W base E
  two : ∀ E ∈ L, E.ps.length = 2
theorem EdRow.len {W : World} {base g n c : Nat} {L : List Edg} (h : EdRow W base g n c L) : L.length = n := by
  have := h.row.1; rw [ecs_len] at this; omega
theorem EdRow.g {W W' : World} {base g n c : Nat} {L : List Edg} (h : EdRow W base g n c L) (hg : G W W') : EdRow W' base g n c L :=
  ⟨hg.ownsRow h.row, fun E hE => (h.each E hE).g hg, h.two⟩
theorem EdRow.isE {W : World} {base g n c : Nat} {L : List Edg} (h : EdRow W base g n c L) : ∀ E ∈ L, IsE E := fun E hE => (h.each E hE).isE
theorem EdRow.rdr {W : World} {base g n c : Nat} {L : List Edg} (h : EdRow W base g n c L) : RdrE W (.slice (some ⟨g, 0, none⟩) n c) L :=
  ⟨by rw [h.len]; exact rdr_of_owns h.row, fun E hE => (h.each E hE).at⟩
theorem EdRow.in {W : World} {base g n c : Nat} {L : List Edg} (h : EdRow W base g n c L) : In W g n c L :=
  ⟨⟨h.row.1, by
    rcases h.row.2 with ⟨h1, -⟩ | ⟨g', cap, cur, he, hb, rest⟩
    · cases h1
    · exact .inr ⟨g', cap, cur, he, Nat.zero_le _, rest⟩⟩, h.isE⟩
theorem EdRow.ge {W : World} {base g n c : Nat} {L : List Edg} (h : EdRow W base g n c L) : base ≤ g := (h.row.lt g rfl).1
/-- an edge with a field that is other -/
theorem ecs_setf : ∀ (l : List Edg) (k : Nat) (E : Edg) (s : ByteArray), l[k]? = some E → ecs (l.set k ⟨s, E.t, E.l, E.tm, E.v, E.ps⟩) = (ecs l).set (k * 5) (.string s)
  | [], k, E, u, h => by cases h
  | y :: l, 0, E, u, h => by cases h; rfl
  | y :: l, k + 1, E, u, h => by
    rw [show (k + 1) * 5 = k * 5 + 5 by omega]
    simp only [List.set_cons_succ, ecs]
    rw [ecs_setf l k E u (by simpa using h)]
theorem ecs_sett : ∀ (l : List Edg) (k : Nat) (E : Edg) (s : ByteArray), l[k]? = some E → ecs (l.set k ⟨E.f, s, E.l, E.tm, E.v, E.ps⟩) = (ecs l).set (k * 5 + 1) (.string s)
  | [], k, E, u, h => by cases h
  | y :: l, 0, E, u, h => by cases h; rfl
  | y :: l, k + 1, E, u, h => by
    rw [show (k + 1) * 5 + 1 = (k * 5 + 1) + 5 by omega]
    simp only [List.set_cons_succ, ecs]
    rw [ecs_sett l k E u (by simpa using h)]
theorem ecs_setl : ∀ (l : List Edg) (k : Nat) (E : Edg) (s : ByteArray), l[k]? = some E → ecs (l.set k ⟨E.f, E.t, s, E.tm, E.v, E.ps⟩) = (ecs l).set (k * 5 + 2) (.string s)
  | [], k, E, u, h => by cases h
  | y :: l, 0, E, u, h => by cases h; rfl
  | y :: l, k + 1, E, u, h => by
    rw [show (k + 1) * 5 + 2 = (k * 5 + 2) + 5 by omega]
    simp only [List.set_cons_succ, ecs]
    rw [ecs_setl l k E u (by simpa using h)]
theorem ecs_setm : ∀ (l : List Edg) (k : Nat) (E : Edg) (x : Int), l[k]? = some E → ecs (l.set k ⟨E.f, E.t, E.l, x, E.v, E.ps⟩) = (ecs l).set (k * 5 + 3) (.int .i64 x)
  | [], k, E, u, h => by cases h
  | y :: l, 0, E, u, h => by cases h; rfl
  | y :: l, k + 1, E, u, h => by
    rw [show (k + 1) * 5 + 3 = (k * 5 + 3) + 5 by omega]
    simp only [List.set_cons_succ, ecs]
    rw [ecs_setm l k E u (by simpa using h)]
theorem EdRow.setE {W : World} {base g n c j : Nat} {L : List Edg} {u : Value} (h : EdRow W base g n c L) {k : Nat} {E E' : Edg} (hk : L[k]? = some E) (hv : E'.v = E.v) (hp : E'.ps = E.ps) (hf : E'.f.size ≤ maxLen) (ht : E'.t.size ≤ maxLen) (hl : E'.l.size ≤ maxLen)
    (hc : ecs (L.set k E') = (ecs L).set j u) : EdRow (W.setCell ⟨g, j, none⟩ u) base g n c (L.set k E') := by
  have fE : Fr (fun q => q = g) W (W.setCell ⟨g, j, none⟩ u) := (Fr.refl (fun q => q = g) W).setCell (p := ⟨g, j, none⟩) (.inl rfl) _
  have hap : ∀ F, OwnE W base F → OwnE (W.setCell ⟨g, j, none⟩ u) base F := fun F hF => hF.fr fE (apart_ep hF h.row rfl)
  refine ⟨by rw [hc]; exact own_set _ h.row, fun F hF => ?_, fun F hF => ?_⟩
  · rcases List.mem_or_eq_of_mem_set hF with h1 | h1
    · exact hap F (h.each F h1)
    · have h2 := hap E (h.each E (List.mem_of_getElem? hk))
      rw [h1]
      exact ⟨by rw [hv, hp]; exact h2.own, by rw [hp]; exact h2.n, by rw [hp]; exact h2.ps, hf, ht, hl⟩
  · rcases List.mem_or_eq_of_mem_set hF with h1 | h1
    · exact h.two F h1
    · rw [h1, hp]; exact h.two E (List.mem_of_getElem? hk)
theorem EdRow.setF {W : World} {base g n c : Nat} {L : List Edg} (h : EdRow W base g n c L) {k : Nat} (hk : k < n) (s : ByteArray) (hs : s.size ≤ maxLen) : ∃ L', EdRow (W.setCell ⟨g, k * 5, none⟩ (.string s)) base g n c L' := by
  have he := eat_get (L := L) (k := k) (by rw [h.len]; exact hk)
  have ho := h.each _ (List.mem_of_getElem? he)
  exact ⟨_, h.setE he (E' := ⟨s, (eat L k).t, (eat L k).l, (eat L k).tm, (eat L k).v, (eat L k).ps⟩) rfl rfl hs ho.t ho.l (ecs_setf L k _ s he)⟩
theorem EdRow.setT {W : World} {base g n c : Nat} {L : List Edg} (h : EdRow W base g n c L) {k : Nat} (hk : k < n) (s : ByteArray) (hs : s.size ≤ maxLen) : ∃ L', EdRow (W.setCell ⟨g, k * 5 + 1, none⟩ (.string s)) base g n c L' := by
  have he := eat_get (L := L) (k := k) (by rw [h.len]; exact hk)
  have ho := h.each _ (List.mem_of_getElem? he)
  exact ⟨_, h.setE he (E' := ⟨(eat L k).f, s, (eat L k).l, (eat L k).tm, (eat L k).v, (eat L k).ps⟩) rfl rfl ho.f hs ho.l (ecs_sett L k _ s he)⟩
theorem EdRow.setL {W : World} {base g n c : Nat} {L : List Edg} (h : EdRow W base g n c L) {k : Nat} (hk : k < n) (s : ByteArray) (hs : s.size ≤ maxLen) : ∃ L', EdRow (W.setCell ⟨g, k * 5 + 2, none⟩ (.string s)) base g n c L' := by
  have he := eat_get (L := L) (k := k) (by rw [h.len]; exact hk)
  have ho := h.each _ (List.mem_of_getElem? he)
  exact ⟨_, h.setE he (E' := ⟨(eat L k).f, (eat L k).t, s, (eat L k).tm, (eat L k).v, (eat L k).ps⟩) rfl rfl ho.f ho.t hs (ecs_setl L k _ s he)⟩
theorem EdRow.setM {W : World} {base g n c : Nat} {L : List Edg} (h : EdRow W base g n c L) {k : Nat} (hk : k < n) (x : Int) : ∃ L', EdRow (W.setCell ⟨g, k * 5 + 3, none⟩ (.int .i64 x)) base g n c L' := by
  have he := eat_get (L := L) (k := k) (by rw [h.len]; exact hk)
  have ho := h.each _ (List.mem_of_getElem? he)
  exact ⟨_, h.setE he (E' := ⟨(eat L k).f, (eat L k).t, (eat L k).l, x, (eat L k).v, (eat L k).ps⟩) rfl rfl ho.f ho.t ho.l (ecs_setm L k _ x he)⟩
/-- what may be written into two props -/
def MayP (q : Nat) (u : Value) : Prop := ((q = 0 ∨ q = 4 ∨ q = 7) ∧ ∃ s : ByteArray, s.size ≤ maxLen ∧ u = .string s) ∨ ((q = 2 ∨ q = 5) ∧ ∃ x : Int, u = .int .i64 x)
theorem two_mem {a b : Prp} (ha : a.1.size ≤ maxLen ∧ a.2.2.2.size ≤ maxLen) (hb : b.1.size ≤ maxLen ∧ b.2.2.2.size ≤ maxLen) : PSz [a, b] := fun p hp => by
  rcases List.mem_cons.1 hp with h | h
  · rw [h]; exact ha
  · rw [List.mem_singleton.1 h]; exact hb
theorem pset {ps : List Prp} {q : Nat} {u : Value} (hl : ps.length = 2) (hz : PSz ps) (h : MayP q u) : ∃ qs, pcells qs = (pcells ps).set q u ∧ qs.length = 2 ∧ PSz qs := by
  match ps, hl with
  | [(k0, a0, b0, c0), (k1, a1, b1, c1)], _ =>
    have h0 := hz (k0, a0, b0, c0) (by simp)
    have h1 := hz (k1, a1, b1, c1) (by simp)
    rcases h with ⟨h | h | h, s, hs, rfl⟩ | ⟨h | h, x, rfl⟩ <;> subst h
    · exact ⟨[(s, a0, b0, c0), (k1, a1, b1, c1)], rfl, rfl, two_mem ⟨hs, h0.2⟩ h1⟩
    · exact ⟨[(k0, a0, b0, c0), (s, a1, b1, c1)], rfl, rfl, two_mem h0 ⟨hs, h1.2⟩⟩
    · exact ⟨[(k0, a0, b0, c0), (k1, a1, b1, s)], rfl, rfl, two_mem h0 ⟨h1.1, hs⟩⟩
    · exact ⟨[(k0, a0, x, c0), (k1, a1, b1, c1)], rfl, rfl, two_mem h0 h1⟩
    · exact ⟨[(k0, a0, b0, c0), (k1, x, b1, c1)], rfl, rfl, two_mem h0 h1⟩
/-- an edge of whose props' block, or of another one, a cell is written -/
theorem OwnE.setP {W : World} {base h q : Nat} {E : Edg} {u : Value} (hE : OwnE W base E) (h2 : E.ps.length = 2) (hm : MayP q u) : ∃ E' : Edg, E'.f = E.f ∧ E'.t = E.t ∧ E'.l = E.l ∧ E'.tm = E.tm ∧ E'.v = E.v ∧ E'.ps.length = 2 ∧ OwnE (W.setCell ⟨h, q, none⟩ u) base E' := by
  by_cases hb : E.v.ownBlock = some h
  · obtain ⟨qs, h3, h4, h5⟩ := pset h2 hE.ps hm
    refine ⟨⟨E.f, E.t, E.l, E.tm, E.v, qs⟩, rfl, rfl, rfl, rfl, rfl, h4, ?_, by show qs.length ≤ _; omega, h5, hE.f, hE.t, hE.l⟩
    show (W.setCell ⟨h, q, none⟩ u).ownsRow base 86 4 E.v qs.length (pcells qs)
    have ho := hE.own
    obtain ⟨p, c, hv⟩ := ownsRow_shape ho
    have : p = some ⟨h, 0, none⟩ := by
      rcases ho.2 with ⟨hn, -⟩ | ⟨g, cap, cur, hv2, -⟩
      · rw [hn] at hb; cases hb
      · rw [hv2] at hb hv; cases hb; cases hv; rfl
    rw [this] at hv
    rw [hv] at ho ⊢
    rw [h3, h4, ← h2]
    exact own_set _ ho
  · refine ⟨E, rfl, rfl, rfl, rfl, rfl, h2, hE.fr ((Fr.refl (fun q => q = h) W).setCell (p := ⟨h, q, none⟩) (.inl rfl) _) (fun g hg e => hb (by rw [hg, e]))⟩
theorem EdRow.setP {W : World} {base g n c h q : Nat} {L : List Edg} {u : Value} (hs : EdRow W base g n c L) (hh : h ≠ g) (hm : MayP q u) : ∃ L', EdRow (W.setCell ⟨h, q, none⟩ u) base g n c L' := by
  have key : ∀ M : List Edg, (∀ E ∈ M, OwnE W base E ∧ E.ps.length = 2) → ∃ M', ecs M' = ecs M ∧ ∀ E ∈ M', OwnE (W.setCell ⟨h, q, none⟩ u) base E ∧ E.ps.length = 2 := by
    intro M
    induction M with
    | nil => exact fun _ => ⟨[], rfl, fun E hE => by cases hE⟩
    | cons E M ih =>
      intro hM
      obtain ⟨M', h1, h2⟩ := ih (fun F hF => hM F (List.mem_cons_of_mem _ hF))
      obtain ⟨E', e1, e2, e3, e4, e5, e6, e7⟩ := (hM E (List.mem_cons_self ..)).1.setP (h := h) (hM E (List.mem_cons_self ..)).2 hm
      refine ⟨E' :: M', by simp only [ecs, e1, e2, e3, e4, e5, h1], fun F hF => ?_⟩
      rcases List.mem_cons.1 hF with rfl | hF
      · exact ⟨e7, e6⟩
      · exact h2 F hF
  obtain ⟨L', h1, h2⟩ := key L (fun E hE => ⟨hs.each E hE, hs.two E hE⟩)
  refine ⟨L', ?_, fun E hE => (h2 E hE).1, fun E hE => (h2 E hE).2⟩
  rw [h1]
  exact ((Fr.refl (fun q => q = h) W).setCell (p := ⟨h, q, none⟩) (.inl rfl) _).ownsRow hs.row (fun k hk e => by cases hk; exact hh e.symm)
/-- the props' block of an edge of the row -/
theorem EdRow.pb {W : World} {base g n c k : Nat} {L : List Edg} (hs : EdRow W base g n c L) (hk : k < n) : ∃ h pc, (eat L k).v = .slice (some ⟨h, 0, none⟩) 2 pc ∧ h ≠ g ∧ base ≤ h ∧ h < W.heap.size ∧ (∀ j, j < 8 → ∃ v, W.cell? ⟨h, j, none⟩ = some v) ∧ (∀ j, W.frozen? ⟨h, j, none⟩ = false) := by
  have he := eat_get (L := L) (k := k) (by rw [hs.len]; exact hk)
  have ho := hs.each _ (List.mem_of_getElem? he)
  have h2 := hs.two _ (List.mem_of_getElem? he)
  have ho2 := ho.own
  rw [h2] at ho2
  obtain ⟨p, pc, hv⟩ := ownsRow_shape ho2
  rcases id ho2.2 with ⟨hn, h0⟩ | ⟨h, cap, cur, hv2, h3, h4, -⟩
  · cases h0
  · have hb : (eat L k).v.ownBlock = some h := by rw [hv2]; rfl
    refine ⟨h, cap, hv2, apart_ep ho hs.row rfl h hb, h3, heap_lt h4, fun j hj => ?_, fun j => ?_⟩
    · have hl := ho2.1
      have := ho2.cells (g := h) hb j _ (List.getElem?_eq_getElem (by omega))
      rw [addr_add, Nat.zero_add] at this
      exact ⟨_, this⟩
    · simp [World.frozen?, h4]
end Go.Proofs.Ytahdodijpmkddaa
