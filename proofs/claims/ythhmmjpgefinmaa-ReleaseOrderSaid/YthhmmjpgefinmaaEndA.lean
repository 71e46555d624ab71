/- laid together: EndA -/
import Derived.Test.YthhmmjpgefinmaaEdgeX
import Derived.Test.YthhmmjpgefinmaaSortKe
set_option maxRecDepth 10000
/- EdgeEnds: copies; a row of edges that is written -/
namespace Go.Proofs.Ythhmmjpgefinmaa
set_option linter.unusedVariables false
set_option linter.unusedSimpArgs false
open Go.RowKit Go.Shelf
attribute [local go_sem] Oper.semAt_some

/-- block g holds a row of edges, each with two props in a block of its own; all of it to be written -/
structure EdRow (W : World) (base g n c : Nat) (L : List Edg) : Prop where
  row : W.ownsRow base 51 5 (.slice (some ⟨g, 0, none⟩) n c) n (ecs L)
  each : ∀ E ∈ L, OwnE W base E
  two : ∀ E ∈ L, E.ps.length = 2
theorem EdRow.len {W : World} {base g n c : Nat} {L : List Edg} (h : EdRow W base g n c L) : L.length = n := by
  have := h.row.1; rw [ecs_len] at this; omega
theorem EdRow.g {W W' : World} {base g n c : Nat} {L : List Edg} (h : EdRow W base g n c L) (hg : G W W') : EdRow W' base g n c L :=
  ⟨hg.ownsRow h.row, fun E hE => (h.each E hE).g hg, h.two⟩
theorem EdRow.isE {W : World} {base g n c : Nat} {L : List Edg} (h : EdRow W base g n c L) : ∀ E ∈ L, IsE E := fun E hE => (h.each E hE).isE
theorem EdRow.rdr {W : World} {base g n c : Nat} {L : List Edg} (h : EdRow W base g n c L) : RdrE W (.slice (some ⟨g, 0, none⟩) n c) L :=
  ⟨by rw [h.len]; exact rdr_of_owns h.row, fun E hE => (h.each E hE).at⟩
theorem EdRow.in {W : World} {base g n c : Nat} {L : List Edg} (h : EdRow W base g n c L) : In W g n c L :=
  ⟨⟨h.row.1, by
    rcases h.row.2 with ⟨h1, -⟩ | ⟨g', cap, cur, he, hb, rest⟩
    · cases h1
    · exact .inr ⟨g', cap, cur, he, Nat.zero_le _, rest⟩⟩, h.isE⟩
theorem EdRow.ge {W : World} {base g n c : Nat} {L : List Edg} (h : EdRow W base g n c L) : base ≤ g := (h.row.lt g rfl).1
/-- an edge with a field that is other -/
theorem ecs_setf : ∀ (l : List Edg) (k : Nat) (E : Edg) (s : ByteArray), l[k]? = some E → ecs (l.set k ⟨s, E.t, E.l, E.tm, E.v, E.ps⟩) = (ecs l).set (k * 5) (.string s)
  | [], k, E, u, h => by cases h
  | y :: l, 0, E, u, h => by cases h; rfl
  | y :: l, k + 1, E, u, h => by
    rw [show (k + 1) * 5 = k * 5 + 5 by omega]
    simp only [List.set_cons_succ, ecs]
    rw [ecs_setf l k E u (by simpa using h)]
theorem ecs_sett : ∀ (l : List Edg) (k : Nat) (E : Edg) (s : ByteArray), l[k]? = some E → ecs (l.set k ⟨E.f, s, E.l, E.tm, E.v, E.ps⟩) = (ecs l).set (k * 5 + 1) (.string s)
  | [], k, E, u, h => by cases h
  | y :: l, 0, E, u, h => by cases h; rfl
  | y :: l, k + 1, E, u, h => by
    rw [show (k + 1) * 5 + 1 = (k * 5 + 1) + 5 by omega]
    simp only [List.set_cons_succ, ecs]
    rw [ecs_sett l k E u (by simpa using h)]
theorem ecs_setl : ∀ (l : List Edg) (k : Nat) (E : Edg) (s : ByteArray), l[k]? = some E → ecs (l.set k ⟨E.f, E.t, s, E.tm, E.v, E.ps⟩) = (ecs l).set (k * 5 + 2) (.string s)
  | [], k, E, u, h => by cases h
  | y :: l, 0, E, u, h => by cases h; rfl
  | y :: l, k + 1, E, u, h => by
    rw [show (k + 1) * 5 + 2 = (k * 5 + 2) + 5 by omega]
    simp only [List.set_cons_succ, ecs]
    rw [ecs_setl l k E u (by simpa using h)]
theorem ecs_setm : ∀ (l : List Edg) (k : Nat) (E : Edg) (x : Int), l[k]? = some E → ecs (l.set k ⟨E.f, E.t, E.l, x, E.v, E.ps⟩) = (ecs l).set (k * 5 + 3) (.int .i64 x)
  | [], k, E, u, h => by cases h
  | y :: l, 0, E, u, h => by cases h; rfl
  | y :: l, k + 1, E, u, h => by
    rw [show (k + 1) * 5 + 3 = (k * 5 + 3) + 5 by omega]
    simp only [List.set_cons_succ, ecs]
    rw [ecs_setm l k E u (by simpa using h)]
theorem EdRow.setE {W : World} {base g n c j : Nat} {L : List Edg} {u : Value} (h : EdRow W base g n c L) {k : Nat} {E E' : Edg} (hk : L[k]? = some E) (hv : E'.v = E.v) (hp : E'.ps = E.ps) (hf : E'.f.size ≤ maxLen) (ht : E'.t.size ≤ maxLen) (hl : E'.l.size ≤ maxLen)
    (hc : ecs (L.set k E') = (ecs L).set j u) : EdRow (W.setCell ⟨g, j, none⟩ u) base g n c (L.set k E') := by
  have fE : Fr (fun q => q = g) W (W.setCell ⟨g, j, none⟩ u) := (Fr.refl (fun q => q = g) W).setCell (p := ⟨g, j, none⟩) (.inl rfl) _
  have hap : ∀ F, OwnE W base F → OwnE (W.setCell ⟨g, j, none⟩ u) base F := fun F hF => hF.fr fE (apart_ep hF h.row rfl)
  refine ⟨by rw [hc]; exact own_set _ h.row, fun F hF => ?_, fun F hF => ?_⟩
  · rcases List.mem_or_eq_of_mem_set hF with h1 | h1
    · exact hap F (h.each F h1)
    · have h2 := hap E (h.each E (List.mem_of_getElem? hk))
      rw [h1]
      exact ⟨by rw [hv, hp]; exact h2.own, by rw [hp]; exact h2.n, by rw [hp]; exact h2.ps, hf, ht, hl⟩
  · rcases List.mem_or_eq_of_mem_set hF with h1 | h1
    · exact h.two F h1
    · rw [h1, hp]; exact h.two E (List.mem_of_getElem? hk)
theorem EdRow.setF {W : World} {base g n c : Nat} {L : List Edg} (h : EdRow W base g n c L) {k : Nat} (hk : k < n) (s : ByteArray) (hs : s.size ≤ maxLen) : ∃ L', EdRow (W.setCell ⟨g, k * 5, none⟩ (.string s)) base g n c L' := by
  have he := eat_get (L := L) (k := k) (by rw [h.len]; exact hk)
  have ho := h.each _ (List.mem_of_getElem? he)
  exact ⟨_, h.setE he (E' := ⟨s, (eat L k).t, (eat L k).l, (eat L k).tm, (eat L k).v, (eat L k).ps⟩) rfl rfl hs ho.t ho.l (ecs_setf L k _ s he)⟩
theorem EdRow.setT {W : World} {base g n c : Nat} {L : List Edg} (h : EdRow W base g n c L) {k : Nat} (hk : k < n) (s : ByteArray) (hs : s.size ≤ maxLen) : ∃ L', EdRow (W.setCell ⟨g, k * 5 + 1, none⟩ (.string s)) base g n c L' := by
  have he := eat_get (L := L) (k := k) (by rw [h.len]; exact hk)
  have ho := h.each _ (List.mem_of_getElem? he)
  exact ⟨_, h.setE he (E' := ⟨(eat L k).f, s, (eat L k).l, (eat L k).tm, (eat L k).v, (eat L k).ps⟩) rfl rfl ho.f hs ho.l (ecs_sett L k _ s he)⟩
theorem EdRow.setL {W : World} {base g n c : Nat} {L : List Edg} (h : EdRow W base g n c L) {k : Nat} (hk : k < n) (s : ByteArray) (hs : s.size ≤ maxLen) : ∃ L', EdRow (W.setCell ⟨g, k * 5 + 2, none⟩ (.string s)) base g n c L' := by
  have he := eat_get (L := L) (k := k) (by rw [h.len]; exact hk)
  have ho := h.each _ (List.mem_of_getElem? he)
  exact ⟨_, h.setE he (E' := ⟨(eat L k).f, (eat L k).t, s, (eat L k).tm, (eat L k).v, (eat L k).ps⟩) rfl rfl ho.f ho.t hs (ecs_setl L k _ s he)⟩
theorem EdRow.setM {W : World} {base g n c : Nat} {L : List Edg} (h : EdRow W base g n c L) {k : Nat} (hk : k < n) (x : Int) : ∃ L', EdRow (W.setCell ⟨g, k * 5 + 3, none⟩ (.int .i64 x)) base g n c L' := by
  have he := eat_get (L := L) (k := k) (by rw [h.len]; exact hk)
  have ho := h.each _ (List.mem_of_getElem? he)
  exact ⟨_, h.setE he (E' := ⟨(eat L k).f, (eat L k).t, (eat L k).l, x, (eat L k).v, (eat L k).ps⟩) rfl rfl ho.f ho.t ho.l (ecs_setm L k _ x he)⟩
/-- what may be written into two props -/
def MayP (q : Nat) (u : Value) : Prop := ((q = 0 ∨ q = 4 ∨ q = 7) ∧ ∃ s : ByteArray, s.size ≤ maxLen ∧ u = .string s) ∨ ((q = 2 ∨ q = 5) ∧ ∃ x : Int, u = .int .i64 x)
theorem two_mem {a b : Prp} (ha : a.1.size ≤ maxLen ∧ a.2.2.2.size ≤ maxLen) (hb : b.1.size ≤ maxLen ∧ b.2.2.2.size ≤ maxLen) : PSz [a, b] := fun p hp => by
  rcases List.mem_cons.1 hp with h | h
  · rw [h]; exact ha
  · rw [List.mem_singleton.1 h]; exact hb
theorem pset {ps : List Prp} {q : Nat} {u : Value} (hl : ps.length = 2) (hz : PSz ps) (h : MayP q u) : ∃ qs, pcells qs = (pcells ps).set q u ∧ qs.length = 2 ∧ PSz qs := by
  match ps, hl with
  | [(k0, a0, b0, c0), (k1, a1, b1, c1)], _ =>
    have h0 := hz (k0, a0, b0, c0) (by simp)
    have h1 := hz (k1, a1, b1, c1) (by simp)
    rcases h with ⟨h | h | h, s, hs, rfl⟩ | ⟨h | h, x, rfl⟩ <;> subst h
    · exact ⟨[(s, a0, b0, c0), (k1, a1, b1, c1)], rfl, rfl, two_mem ⟨hs, h0.2⟩ h1⟩
    · exact ⟨[(k0, a0, b0, c0), (s, a1, b1, c1)], rfl, rfl, two_mem h0 ⟨hs, h1.2⟩⟩
    · exact ⟨[(k0, a0, b0, c0), (k1, a1, b1, s)], rfl, rfl, two_mem h0 ⟨h1.1, hs⟩⟩
    · exact ⟨[(k0, a0, x, c0), (k1, a1, b1, c1)], rfl, rfl, two_mem h0 h1⟩
    · exact ⟨[(k0, a0, b0, c0), (k1, x, b1, c1)], rfl, rfl, two_mem h0 h1⟩
/-- an edge of whose props' block, or of another one, a cell is written -/
theorem OwnE.setP {W : World} {base h q : Nat} {E : Edg} {u : Value} (hE : OwnE W base E) (h2 : E.ps.length = 2) (hm : MayP q u) : ∃ E' : Edg, E'.f = E.f ∧ E'.t = E.t ∧ E'.l = E.l ∧ E'.tm = E.tm ∧ E'.v = E.v ∧ E'.ps.length = 2 ∧ OwnE (W.setCell ⟨h, q, none⟩ u) base E' := by
  by_cases hb : E.v.ownBlock = some h
  · obtain ⟨qs, h3, h4, h5⟩ := pset h2 hE.ps hm
    refine ⟨⟨E.f, E.t, E.l, E.tm, E.v, qs⟩, rfl, rfl, rfl, rfl, rfl, h4, ?_, by show qs.length ≤ _; omega, h5, hE.f, hE.t, hE.l⟩
    show (W.setCell ⟨h, q, none⟩ u).ownsRow base 105 4 E.v qs.length (pcells qs)
    have ho := hE.own
    obtain ⟨p, c, hv⟩ := ownsRow_shape ho
    have : p = some ⟨h, 0, none⟩ := by
      rcases ho.2 with ⟨hn, -⟩ | ⟨g, cap, cur, hv2, -⟩
      · rw [hn] at hb; cases hb
      · rw [hv2] at hb hv; cases hb; cases hv; rfl
    rw [this] at hv
    rw [hv] at ho ⊢
    rw [h3, h4, ← h2]
    exact own_set _ ho
  · refine ⟨E, rfl, rfl, rfl, rfl, rfl, h2, hE.fr ((Fr.refl (fun q => q = h) W).setCell (p := ⟨h, q, none⟩) (.inl rfl) _) (fun g hg e => hb (by rw [hg, e]))⟩
theorem EdRow.setP {W : World} {base g n c h q : Nat} {L : List Edg} {u : Value} (hs : EdRow W base g n c L) (hh : h ≠ g) (hm : MayP q u) : ∃ L', EdRow (W.setCell ⟨h, q, none⟩ u) base g n c L' := by
  have key : ∀ M : List Edg, (∀ E ∈ M, OwnE W base E ∧ E.ps.length = 2) → ∃ M', ecs M' = ecs M ∧ ∀ E ∈ M', OwnE (W.setCell ⟨h, q, none⟩ u) base E ∧ E.ps.length = 2 := by
    intro M
    induction M with
    | nil => exact fun _ => ⟨[], rfl, fun E hE => by cases hE⟩
    | cons E M ih =>
      intro hM
      obtain ⟨M', h1, h2⟩ := ih (fun F hF => hM F (List.mem_cons_of_mem _ hF))
      obtain ⟨E', e1, e2, e3, e4, e5, e6, e7⟩ := (hM E (List.mem_cons_self ..)).1.setP (h := h) (hM E (List.mem_cons_self ..)).2 hm
      refine ⟨E' :: M', by simp only [ecs, e1, e2, e3, e4, e5, h1], fun F hF => ?_⟩
      rcases List.mem_cons.1 hF with rfl | hF
      · exact ⟨e7, e6⟩
      · exact h2 F hF
  obtain ⟨L', h1, h2⟩ := key L (fun E hE => ⟨hs.each E hE, hs.two E hE⟩)
  refine ⟨L', ?_, fun E hE => (h2 E hE).1, fun E hE => (h2 E hE).2⟩
  rw [h1]
  exact ((Fr.refl (fun q => q = h) W).setCell (p := ⟨h, q, none⟩) (.inl rfl) _).ownsRow hs.row (fun k hk e => by cases hk; exact hh e.symm)
/-- the props' block of an edge of the row -/
theorem EdRow.pb {W : World} {base g n c k : Nat} {L : List Edg} (hs : EdRow W base g n c L) (hk : k < n) : ∃ h pc, (eat L k).v = .slice (some ⟨h, 0, none⟩) 2 pc ∧ h ≠ g ∧ base ≤ h ∧ h < W.heap.size ∧ (∀ j, j < 8 → ∃ v, W.cell? ⟨h, j, none⟩ = some v) ∧ (∀ j, W.frozen? ⟨h, j, none⟩ = false) := by
  have he := eat_get (L := L) (k := k) (by rw [hs.len]; exact hk)
  have ho := hs.each _ (List.mem_of_getElem? he)
  have h2 := hs.two _ (List.mem_of_getElem? he)
  have ho2 := ho.own
  rw [h2] at ho2
  obtain ⟨p, pc, hv⟩ := ownsRow_shape ho2
  rcases id ho2.2 with ⟨hn, h0⟩ | ⟨h, cap, cur, hv2, h3, h4, -⟩
  · cases h0
  · have hb : (eat L k).v.ownBlock = some h := by rw [hv2]; rfl
    refine ⟨h, cap, hv2, apart_ep ho hs.row rfl h hb, h3, heap_lt h4, fun j hj => ?_, fun j => ?_⟩
    · have hl := ho2.1
      have := ho2.cells (g := h) hb j _ (List.getElem?_eq_getElem (by omega))
      rw [addr_add, Nat.zero_add] at this
      exact ⟨_, this⟩
    · simp [World.frozen?, h4]
end Go.Proofs.Ythhmmjpgefinmaa
