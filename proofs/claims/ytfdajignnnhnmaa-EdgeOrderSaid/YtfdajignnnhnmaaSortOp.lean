/- rows of edges that came in -/
import Derived.Test.YtfdajignnnhnmaaEdgeN
import Derived.Test.YtfdajignnnhnmaaSortLw
namespace Go.Proofs.Ytfdajignnnhnmaa
set_option linter.unusedVariables false
set_option linter.unusedSimpArgs false
open Go.RowKit Go.Shelf Go.ChangeShapes Go.WideShapes Go.Deep

theorem open_edges {H : Type} {enc : TypeId × Value → H} {W : World} {sp : Nat → Bool} {held : Bool} {fuel : Nat} {v : Value} {x : DataW H × List MemPlace} (h : DataW.trod enc Try.prog W 0 sp held fuel 35 [v] = some x) :
    ∃ l : List Edg, Rdr W 5 v l.length (ecs l) ∧ (∀ E ∈ l, Rdr W 4 E.v E.ps.length (pcells E.ps) ∧ PSz E.ps ∧ (E.f.size ≤ maxLen ∧ E.t.size ≤ maxLen ∧ E.l.size ≤ maxLen)) ∧ (∀ n, (∀ m ∈ x.1.weights Try.prog 35, m ≤ n) → l.length * 80 ≤ n ∧ ∀ E ∈ l, E.ps.length * 48 ≤ n) := by
  rcases Deep.open_slice Try.underlying35 h with ⟨h1, -⟩ | ⟨a, len, cap, m, n, D, Pl, h1, -, hl, hm, hz, hxx, hx⟩
  · cases h1
    exact ⟨[], Rdr.nil _ _ _ _, by simp, by simp⟩
  · cases h1
    have hle : len ≤ m := by rw [hz]; split <;> omega
    have hc3 : Try.prog.cellsOf 27 = 5 := by kernel_rfl
    rw [hc3] at hx
    have each : ∀ i, ∃ E : Edg, i < len → (Rdr W 4 E.v E.ps.length (pcells E.ps) ∧ PSz E.ps ∧ (E.f.size ≤ maxLen ∧ E.t.size ≤ maxLen ∧ E.l.size ≤ maxLen) ∧ (∀ n, (∀ m ∈ (D i).weights Try.prog 27, m ≤ n) → E.ps.length * 48 ≤ n)) ∧
        W.cell? (a.add (i * 5)) = some (.string E.f) ∧ W.cell? (a.add (i * 5 + 1)) = some (.string E.t) ∧ W.cell? (a.add (i * 5 + 2)) = some (.string E.l) ∧ W.cell? (a.add (i * 5 + 3)) = some (.int .i64 E.tm) ∧ W.cell? (a.add (i * 5 + 4)) = some E.v := by
      intro i
      by_cases hi : i < len
      · obtain ⟨cs', hcs, ht⟩ := hx i (by omega)
        obtain ⟨E, rfl, e1, e2, e3, e4⟩ := open_edge ht
        obtain ⟨-, -, hat⟩ := World.cells?_some hcs
        have a0 := hat 0 (by omega)
        have a1 := hat 1 (by omega)
        have a2 := hat 2 (by omega)
        have a3 := hat 3 (by omega)
        have a4 := hat 4 (by omega)
        rw [Deep.add_add] at a0 a1 a2 a3 a4
        exact ⟨E, fun _ => ⟨⟨e1, e2, e3, e4⟩, a0, a1, a2, a3, a4⟩⟩
      · exact ⟨zeroE, fun h => absurd h hi⟩
    obtain ⟨Lf, hLf⟩ := Classical.axiomOfChoice each
    have e1 : ((List.range len).map Lf).length = len := by simp
    refine ⟨(List.range len).map Lf, ?_, ?_, fun N hN => ⟨?_, ?_⟩⟩
    · refine ⟨by rw [ecs_len], some a, cap, by rw [e1], fun h0 => ?_⟩
      rw [e1] at h0
      have ha := spot_none (hLf 0 h0).2.1
      rw [show a.add (0 * 5) = a from by simp [Addr.add]] at ha
      refine ⟨a.block, a.off, by rw [← ha], fun j u hu => ?_⟩
      have hj : j < len * 5 := by
        have := (List.getElem?_eq_some_iff.1 hu).1
        rwa [ecs_len, e1] at this
      have hi : j / 5 < len := by omega
      obtain ⟨-, b0, b1, b2, b3, b4⟩ := hLf (j / 5) hi
      obtain ⟨d0, d1, d2, d3, d4⟩ := ecs_get (l := (List.range len).map Lf) (k := j / 5) (E := Lf (j / 5)) (by simp [hi])
      rw [ha, addr_add] at b0 b1 b2 b3 b4
      rcases (by omega : j = j / 5 * 5 ∨ j = j / 5 * 5 + 1 ∨ j = j / 5 * 5 + 2 ∨ j = j / 5 * 5 + 3 ∨ j = j / 5 * 5 + 4) with e | e | e | e | e
      · rw [e] at hu ⊢; rw [d0] at hu; cases hu; exact b0
      · rw [e] at hu ⊢; rw [d1] at hu; cases hu; exact b1
      · rw [e] at hu ⊢; rw [d2] at hu; cases hu; exact b2
      · rw [e] at hu ⊢; rw [d3] at hu; cases hu; exact b3
      · rw [e] at hu ⊢; rw [d4] at hu; cases hu; exact b4
    · intro u hu
      simp at hu
      obtain ⟨i, hi, rfl⟩ := hu
      obtain ⟨⟨q1, q2, q3, -⟩, -⟩ := hLf i hi
      exact ⟨q1, q2, q3⟩
    · subst hxx
      have hw := hN (((((List.range len).map D).length) + ((List.range (m - len)).map fun j => D (len + j)).length) * Try.prog.bytesOf 27) (by simp [DataW.weights, Try.underlying35])
      rw [show Try.prog.bytesOf 27 = 80 from by kernel_rfl] at hw
      refine Nat.le_trans (Nat.mul_le_mul_right _ ?_) hw
      simp
    · intro u hu
      simp at hu
      obtain ⟨i, hi, rfl⟩ := hu
      obtain ⟨⟨-, -, -, q4⟩, -⟩ := hLf i hi
      refine q4 N (fun q hq => hN q ?_)
      subst hxx
      simp only [DataW.weights, Try.underlying35, List.mem_cons]
      refine .inr ?_
      exact List.mem_append.2 (.inl (weightsAll_mem (d := D i) (by simp; exact ⟨i, hi, rfl⟩) hq))
end Go.Proofs.Ytfdajignnnhnmaa
