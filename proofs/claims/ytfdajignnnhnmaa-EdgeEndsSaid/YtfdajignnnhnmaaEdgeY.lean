/- edges that are lent, and kept -/
import Derived.Test.YtfdajignnnhnmaaEdgeX
import Derived.Test.YtfdajignnnhnmaaEdgeT
namespace Go.Proofs.Ytfdajignnnhnmaa
set_option linter.unusedVariables false
set_option linter.unusedSimpArgs false
open Go.RowKit Go.Shelf
attribute [local go_sem] Oper.semAt_some

/-- an edge with its props in another slice -/
def lentE (E : Edg) (u : Value) : Edg := ⟨E.f, E.t, E.l, E.tm, u, E.ps⟩
/-- u is lent of the props of E -/
def LentP (W : World) (base : Nat) (u : Value) (E : Edg) : Prop := Lent W base 56 4 u E.ps.length (pcells E.ps ++ pcells (marksP 1 12))
theorem LentP.fr {S : Nat → Prop} {W W' : World} {base : Nat} {u : Value} {E : Edg} (h : LentP W base u E) (hf : Fr S W W') (hs : ∀ g, u.ownBlock = some g → ¬ S g) : LentP W' base u E := Lent.fr h hf hs
theorem LentP.g {W W' : World} {base : Nat} {u : Value} {E : Edg} (h : LentP W base u E) (hg : G W W') : LentP W' base u E := Lent.fr h (hg.fr (fun _ => False)) (fun _ _ h => h)
theorem LentP.at {W : World} {base : Nat} {u : Value} {E : Edg} (h : LentP W base u E) (hE : EdgAt W E) : EdgAt W (lentE E u) :=
  ⟨Lent.rdr h (pcells_len _), hE.n, hE.ps, hE.f, hE.t, hE.l⟩
theorem LentP.slice {W : World} {base : Nat} {u : Value} {E : Edg} (h : LentP W base u E) : ∃ p c, u = .slice p E.ps.length c := by
  obtain ⟨g, c, h, -⟩ := h; exact ⟨_, _, h⟩
theorem out_lent (E : Edg) (u : Value) : outE (lentE E u) = outE E := rfl
set_option maxHeartbeats 1000000 in
theorem lentE_any (E : Edg) (w : World) (hE : EdgAt w E) (hn : E.ps.length ≤ 1000000) : Calls Try.prog 19 #[ev E] w fun e w' => ∃ u, e = .returned (ev (lentE E u)) ∧ LentP w' (w.heap.size + 2) u E ∧ G w w' := by
  obtain ⟨f, t, l, tm, v, ps⟩ := E
  obtain ⟨-, vp, vc, hvv, -⟩ := id hE.rdr
  simp only at hvv hn
  have hR := hE.rdr
  simp only at hR
  subst hvv
  obtain ⟨n, hnn⟩ : ∃ n, n = ps.length := ⟨_, rfl⟩
  unfold ev lentE LentP
  simp only
  obtain ⟨W1, hW1⟩ : ∃ X : World, X = (w.alloc (.cells #[.string f, .string t, .string l, .int .i64 tm, .slice vp n vc] 27)).alloc (.cells #[.string ⟨#[]⟩, .string ⟨#[]⟩, .string ⟨#[]⟩, .int .i64 0, .slice none 0 0] 27) := ⟨_, rfl⟩
  have hbx := boxes w #[.string f, .string t, .string l, .int .i64 tm, .slice vp n vc] #[.string ⟨#[]⟩, .string ⟨#[]⟩, .string ⟨#[]⟩, .int .i64 0, .slice none 0 0] 27
  rw [← hW1] at hbx
  obtain ⟨hg1, hbA, hbB⟩ := hbx
  have hz1 : W1.heap.size = w.heap.size + 2 := by rw [hW1]; simp
  have HL := Lib.hid (lentP_any ps _ W1 (hR.g hg1) hn)
  rw [hz1, ← hnn] at HL
  rw [← hnn]
  have HW1 := Lib.hid hW1
  have HA := Lib.hid hbA
  have HB := Lib.hid hbB
  have HG1 := Lib.hid hg1
  have HZ1 := Lib.hid hz1
  obtain ⟨-, -, -, -, a4⟩ := cells5 hbA
  clear hE hn hR hnn hW1 hbA hbB hg1 hz1
  go_enter Try.func19, Try.ntmps19
  go_upto_region 1 with fail
  rw [← HW1.out]
  go_wp2_with fail
  refine HL.out.mono ?_
  rintro e w2 ⟨u, rfl, hl, hg2⟩
  obtain ⟨g, cap, hu, -⟩ := id hl
  subst hu
  have HLT := Lib.hid (Lent.lt hl g rfl)
  have hA2 := (hg2.block (heap_lt HA.out)).trans HA.out
  have hB2 := (hg2.block (heap_lt HB.out)).trans HB.out
  have HL2 := Lib.hid hl
  have HG2 := Lib.hid (HG1.out.trans hg2)
  obtain ⟨a0, a1, a2, a3, a4⟩ := cells5 hA2
  have y4 : w2.frozen? ⟨w.heap.size, 4, none⟩ = false := by unfold World.frozen?; rw [hA2]; simp
  clear hl hg2 HL
  go_upto_region 2 with fail
  obtain ⟨w3, hw3⟩ : ∃ X : World, X = w2.setCell ⟨w.heap.size, 4, none⟩ (.slice (some ⟨g, 0, none⟩) n cap) := ⟨_, rfl⟩
  rw [← hw3]
  have hA3 : w3.heap[w.heap.size]? = some (.cells #[.string f, .string t, .string l, .int .i64 tm, .slice (some ⟨g, 0, none⟩) n cap] 27 (0, 0)) := by rw [hw3]; exact heap_setCell_at _ _ 4 _ _ _ _ hA2
  have fA : Fr (fun q => q = w.heap.size) w2 w3 := by rw [hw3]; exact (Fr.refl (fun q => q = w.heap.size) w2).setCell (p := ⟨w.heap.size, 4, none⟩) (.inl rfl) _
  have hB3 := (fA.block _ (heap_lt hB2) (by omega)).trans hB2
  have hg3 : G w w3 := g_of_fr HG2.out fA (fun q e => by omega)
  have HL3 := Lib.hid (Lent.fr HL2.out fA (fun g' hg e => by have h9 := HLT.out; obtain rfl : g = g' := (by simpa [Value.ownBlock] using hg); omega))
  clear hA2 hB2 hw3 a0 a1 a2 a3 a4 y4 HL2 HG2
  obtain ⟨a0, a1, a2, a3, a4⟩ := cells5 hA3
  obtain ⟨b0, b1, b2, b3, b4⟩ := cells5 hB3
  have y0 : w3.frozen? ⟨w.heap.size + 1, 0, none⟩ = false := by unfold World.frozen?; rw [hB3]; simp
  have y1 : w3.frozen? ⟨w.heap.size + 1, 1, none⟩ = false := by unfold World.frozen?; rw [hB3]; simp
  have y2 : w3.frozen? ⟨w.heap.size + 1, 2, none⟩ = false := by unfold World.frozen?; rw [hB3]; simp
  have y3 : w3.frozen? ⟨w.heap.size + 1, 3, none⟩ = false := by unfold World.frozen?; rw [hB3]; simp
  have y4 : w3.frozen? ⟨w.heap.size + 1, 4, none⟩ = false := by unfold World.frozen?; rw [hB3]; simp
  obtain ⟨hgF, hrF⟩ := set5 hg3 (show w.heap.size ≤ w.heap.size + 1 by omega) hB3 (.string f) (.string t) (.string l) (.int .i64 tm) (.slice (some ⟨g, 0, none⟩) n cap)
  obtain ⟨q0, q1, q2, q3, q4⟩ := cells5 hrF
  have hlF := Lent.fr HL3.out ((((((Fr.refl (fun q => q = w.heap.size + 1) w3).setCell (p := ⟨w.heap.size + 1, 0, none⟩) (.inl rfl) (.string f)).setCell (p := ⟨w.heap.size + 1, 1, none⟩) (.inl rfl) (.string t)).setCell (p := ⟨w.heap.size + 1, 2, none⟩) (.inl rfl) (.string l)).setCell (p := ⟨w.heap.size + 1, 3, none⟩) (.inl rfl) (.int .i64 tm)).setCell (p := ⟨w.heap.size + 1, 4, none⟩) (.inl rfl) (.slice (some ⟨g, 0, none⟩) n cap)) (fun g' hg e => by have h9 := HLT.out; obtain rfl : g = g' := (by simpa [Value.ownBlock] using hg); omega)
  have HLF := Lib.hid hlF
  clear hA3 hB3 fA hrF hlF HL3
  go_wp2_with fail
  refine bodyPost_ret (v := .agg #[.string f, .string t, .string l, .int .i64 tm, .slice (some ⟨g, 0, none⟩) n cap]) ?_ rfl ⟨_, rfl, HLF.out, hgF⟩
  simp [results, Try.results19, go_sem, q0, q1, q2, q3, q4]
theorem keptE_yes (E : Edg) (u : Value) (base : Nat) (w : World) (hE : EdgAt w E) (hn : E.ps.length ≤ 1000000) (hl : LentP w base u E) : Calls Try.prog 28 #[ev (lentE E u), ev E] w fun e w' => e = .returned (.bool true) ∧ G w w' := by
  have hat := hl.at hE
  obtain ⟨f, t, l, tm, v, ps⟩ := E
  obtain ⟨-, vp, vc, hvv, -⟩ := id hE.rdr
  obtain ⟨up, uc, huu⟩ := hl.slice
  simp only at hvv hn huu
  have hR := hE.rdr
  simp only at hR
  subst hvv huu
  obtain ⟨n, hnn⟩ : ∃ n, n = ps.length := ⟨_, rfl⟩
  obtain ⟨W1, hW1⟩ : ∃ X : World, X = (w.alloc (.cells #[.string f, .string t, .string l, .int .i64 tm, .slice up n uc] 27)).alloc (.cells #[.string f, .string t, .string l, .int .i64 tm, .slice vp n vc] 27) := ⟨_, rfl⟩
  have hbx := boxes w #[.string f, .string t, .string l, .int .i64 tm, .slice up n uc] #[.string f, .string t, .string l, .int .i64 tm, .slice vp n vc] 27
  rw [← hW1] at hbx
  obtain ⟨hg1, hbA, hbB⟩ := hbx
  have HS := Lib.hid (sameE_any _ _ W1 (hat.g hg1) (hE.g hg1))
  have hsame : sameE (lentE ⟨f, t, l, tm, .slice vp ps.length vc, ps⟩ (.slice up ps.length uc)) ⟨f, t, l, tm, .slice vp ps.length vc, ps⟩ = true := same_of_out rfl
  rw [hsame] at HS
  have HK := Lib.hid (fun W (hW : G W1 W) => keptP_yes ps (.slice up ps.length uc) (.slice vp ps.length vc) base W (Lent.g (LentP.g hl hg1) hW) ((hR.g hg1).g hW) hn)
  unfold ev lentE at HS ⊢
  simp only at HS ⊢
  rw [← hnn] at HS HK ⊢
  have HW1 := Lib.hid hW1
  obtain ⟨a0, a1, a2, a3, a4⟩ := cells5 hbA
  obtain ⟨b0, b1, b2, b3, b4⟩ := cells5 hbB
  have HG1 := Lib.hid hg1
  clear hE hn hR hnn hW1 hbA hbB hg1 hsame hat hl
  go_enter Try.func28, Try.ntmps28
  go_upto_region 1 with fail
  rw [← HW1.out]
  go_wp2_with fail
  refine HS.out.mono ?_
  rintro e w2 ⟨rfl, hg2⟩
  have a4 := hg2.cell a4
  have b4 := hg2.cell b4
  clear a0 a1 a2 a3 b0 b1 b2 b3 HS
  go_wp2_with fail
  refine (HK.out w2 hg2).mono ?_
  rintro e w3 ⟨rfl, hg3⟩
  go_wp2_with fail
  go_ret
  exact ⟨rfl, (HG1.out.trans hg2).trans hg3⟩
end Go.Proofs.Ytfdajignnnhnmaa
