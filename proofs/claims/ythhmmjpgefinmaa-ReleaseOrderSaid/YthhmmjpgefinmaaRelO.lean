/- slots that came in -/
import Derived.Test.YthhmmjpgefinmaaEdgeN
import Derived.Test.YthhmmjpgefinmaaHeapG
import Derived.Test.YthhmmjpgefinmaaRelS
import Derived.Test.YthhmmjpgefinmaaSortKe
import Derived.Test.YthhmmjpgefinmaaBufV
set_option maxRecDepth 10000
namespace Go.Proofs.Ythhmmjpgefinmaa
set_option linter.unusedVariables false
set_option linter.unusedSimpArgs false
open Go.RowKit Go.Shelf Go.ChangeShapes Go.WideShapes Go.Deep

/-- an item: two cells -/
theorem open_slot {H : Type} {enc : TypeId × Value → H} {W : World} {sp : Nat → Bool} {held : Bool} {fuel : Nat} {cs : List Value} {x : DataW H × List MemPlace} (h : DataW.trod enc Try.prog W 0 sp held fuel 55 cs = some x) :
    ∃ u : Slt, cs = [.int .i64 u.1, .int .i64 u.2] ∧ u.1 ≤ 9223372036854775807 := by
  obtain ⟨ys, n, -, -, hl, hyz, hf⟩ := DataW.trod_struct Try.underlying55 h
  rw [show Try.prog.cellsOf 55 = 2 from by kernel_rfl] at hl
  obtain ⟨c0, c1, rfl⟩ : ∃ c0 c1, cs = [c0, c1] := by
    match cs, hl with
    | [a, b], _ => exact ⟨a, b, rfl⟩
  have h0 : DataW.trod enc Try.prog W 0 sp held n 3 (([c0, c1].drop 0).take (Try.prog.cellsOf 3)) = ys[0]? := hf 0 _ rfl
  have h1 : DataW.trod enc Try.prog W 0 sp held n 3 (([c0, c1].drop 1).take (Try.prog.cellsOf 3)) = ys[1]? := hf 1 _ rfl
  rw [show Try.prog.cellsOf 3 = 1 from by kernel_rfl] at h0 h1
  simp only [List.drop_zero, List.drop_succ_cons, List.take_succ_cons, List.take_zero] at h0 h1
  have hs : ∀ i : Nat, i < 2 → ∃ y, ys[i]? = some y := by
    intro i hi
    have : i < ys.length := by
      have hz : ys.length = 2 := hyz
      omega
    exact ⟨ys[i], List.getElem?_eq_getElem this⟩
  obtain ⟨y0, e0⟩ := hs 0 (by omega)
  obtain ⟨y1, e1⟩ := hs 1 (by omega)
  rw [e0] at h0
  rw [e1] at h1
  obtain ⟨k, g0, -, gk⟩ := DataW.trod_int Try.underlying3 h0
  obtain ⟨m, g1, -, -⟩ := DataW.trod_int Try.underlying3 h1
  cases g0; cases g1
  refine ⟨(k, m), rfl, ?_⟩
  have hmx : IntKind.i64.max = 9223372036854775807 := by decide
  simp only [Lit.wf, hmx, Bool.and_eq_true, decide_eq_true_eq] at gk
  exact gk.2
/-- the bulk of a row -/
theorem open_slots {H : Type} {enc : TypeId × Value → H} {W : World} {sp : Nat → Bool} {held : Bool} {fuel : Nat} {v : Value} {x : DataW H × List MemPlace} (h : DataW.trod enc Try.prog W 0 sp held fuel 22 [v] = some x) :
    ∃ l : List Slt, Rdr W 2 v l.length (icells l) ∧ (∀ u ∈ l, u.1 ≤ 9223372036854775807) ∧ (∀ n, (∀ m ∈ x.1.weights Try.prog 22, m ≤ n) → l.length * 16 ≤ n) := by
  rcases Deep.open_slice Try.underlying22 h with ⟨h1, -⟩ | ⟨a, len, cap, m, n, D, Pl, h1, -, hl, hm, hz, hxx, hx⟩
  · cases h1
    exact ⟨[], Rdr.nil _ _ _ _, by simp, by simp⟩
  · cases h1
    have hle : len ≤ m := by rw [hz]; split <;> omega
    have hc3 : Try.prog.cellsOf 55 = 2 := by kernel_rfl
    rw [hc3] at hx
    have each : ∀ i, ∃ u : Slt, i < len → u.1 ≤ 9223372036854775807 ∧ W.cell? (a.add (i * 2)) = some (.int .i64 u.1) ∧ W.cell? (a.add (i * 2 + 1)) = some (.int .i64 u.2) := by
      intro i
      by_cases hi : i < len
      · obtain ⟨cs', hcs, ht⟩ := hx i (by omega)
        obtain ⟨u, rfl, hu⟩ := open_slot ht
        obtain ⟨-, -, hat⟩ := World.cells?_some hcs
        have a0 := hat 0 (by omega)
        have a1 := hat 1 (by omega)
        rw [Deep.add_add] at a0 a1
        exact ⟨u, fun _ => ⟨hu, a0, a1⟩⟩
      · exact ⟨(0, 0), fun h => absurd h hi⟩
    obtain ⟨Lf, hLf⟩ := Classical.axiomOfChoice each
    have e1 : ((List.range len).map Lf).length = len := by simp
    refine ⟨(List.range len).map Lf, ?_, ?_, fun N hN => ?_⟩
    · refine ⟨by rw [icells_len], some a, cap, by rw [e1], fun h0 => ?_⟩
      rw [e1] at h0
      have ha := spot_none (hLf 0 h0).2.1
      rw [show a.add (0 * 2) = a from by simp [Addr.add]] at ha
      refine ⟨a.block, a.off, by rw [← ha], fun j u hu => ?_⟩
      have hj : j < len * 2 := by
        have := (List.getElem?_eq_some_iff.1 hu).1
        rwa [icells_len, e1] at this
      have hi : j / 2 < len := by omega
      obtain ⟨-, b0, b1⟩ := hLf (j / 2) hi
      obtain ⟨d0, d1⟩ := icells_get (l := (List.range len).map Lf) (k := j / 2) (x := Lf (j / 2)) (by simp [hi])
      rw [ha, addr_add] at b0 b1
      rcases (by omega : j = j / 2 * 2 ∨ j = j / 2 * 2 + 1) with e | e
      · rw [e] at hu ⊢; rw [d0] at hu; cases hu; exact b0
      · rw [e] at hu ⊢; rw [d1] at hu; cases hu; exact b1
    · intro u hu
      simp at hu
      obtain ⟨i, hi, rfl⟩ := hu
      exact (hLf i hi).1
    · subst hxx
      have hw := hN (((((List.range len).map D).length) + ((List.range (m - len)).map fun j => D (len + j)).length) * Try.prog.bytesOf 55) (by simp [DataW.weights, Try.underlying22])
      rw [show Try.prog.bytesOf 55 = 16 from by kernel_rfl] at hw
      refine Nat.le_trans (Nat.mul_le_mul_right _ ?_) hw
      simp
/-- an edge's time is an int -/
theorem open_tm {H : Type} {enc : TypeId × Value → H} {W : World} {sp : Nat → Bool} {held : Bool} {fuel : Nat} {E : Edg} {x : DataW H × List MemPlace} (h : DataW.trod enc Try.prog W 0 sp held fuel 51 (ecells E) = some x) : InR E.tm := by
  obtain ⟨ys, n, -, hxx, hl, hyz, hf⟩ := DataW.trod_struct Try.underlying51 h
  have h3 : DataW.trod enc Try.prog W 0 sp held n 3 (((ecells E).drop 3).take (Try.prog.cellsOf 3)) = ys[3]? := hf 3 _ rfl
  rw [show Try.prog.cellsOf 3 = 1 from by kernel_rfl] at h3
  simp only [ecells, List.drop_zero, List.drop_succ_cons, List.take_succ_cons, List.take_zero] at h3
  have hz : ys.length = 5 := hyz
  rw [List.getElem?_eq_getElem (show 3 < ys.length by omega)] at h3
  obtain ⟨k, g3, -, gk⟩ := DataW.trod_int Try.underlying3 h3
  cases g3
  have hmx : IntKind.i64.max = 9223372036854775807 := by decide
  have hmn : IntKind.i64.min = -9223372036854775808 := by decide
  simp only [Lit.wf, hmx, hmn, Bool.and_eq_true, decide_eq_true_eq] at gk
  exact gk
theorem open_edgesT {H : Type} {enc : TypeId × Value → H} {W : World} {sp : Nat → Bool} {held : Bool} {fuel : Nat} {v : Value} {x : DataW H × List MemPlace} (h : DataW.trod enc Try.prog W 0 sp held fuel 40 [v] = some x) :
    ∃ l : List Edg, Rdr W 5 v l.length (ecs l) ∧ (∀ E ∈ l, Rdr W 4 E.v E.ps.length (pcells E.ps) ∧ PSz E.ps ∧ (E.f.size ≤ maxLen ∧ E.t.size ≤ maxLen ∧ E.l.size ≤ maxLen) ∧ InR E.tm) ∧ (∀ n, (∀ m ∈ x.1.weights Try.prog 40, m ≤ n) → l.length * 80 ≤ n ∧ ∀ E ∈ l, E.ps.length * 48 ≤ n) := by
  rcases Deep.open_slice Try.underlying40 h with ⟨h1, -⟩ | ⟨a, len, cap, m, n, D, Pl, h1, -, hl, hm, hz, hxx, hx⟩
  · cases h1
    exact ⟨[], Rdr.nil _ _ _ _, by simp, by simp⟩
  · cases h1
    have hle : len ≤ m := by rw [hz]; split <;> omega
    have hc3 : Try.prog.cellsOf 51 = 5 := by kernel_rfl
    rw [hc3] at hx
    have each : ∀ i, ∃ E : Edg, i < len → (Rdr W 4 E.v E.ps.length (pcells E.ps) ∧ PSz E.ps ∧ (E.f.size ≤ maxLen ∧ E.t.size ≤ maxLen ∧ E.l.size ≤ maxLen) ∧ InR E.tm ∧ (∀ n, (∀ m ∈ (D i).weights Try.prog 51, m ≤ n) → E.ps.length * 48 ≤ n)) ∧
        W.cell? (a.add (i * 5)) = some (.string E.f) ∧ W.cell? (a.add (i * 5 + 1)) = some (.string E.t) ∧ W.cell? (a.add (i * 5 + 2)) = some (.string E.l) ∧ W.cell? (a.add (i * 5 + 3)) = some (.int .i64 E.tm) ∧ W.cell? (a.add (i * 5 + 4)) = some E.v := by
      intro i
      by_cases hi : i < len
      · obtain ⟨cs', hcs, ht⟩ := hx i (by omega)
        obtain ⟨E, rfl, e1, e2, e3, e4⟩ := open_edge ht
        obtain ⟨-, -, hat⟩ := World.cells?_some hcs
        have a0 := hat 0 (by omega)
        have a1 := hat 1 (by omega)
        have a2 := hat 2 (by omega)
        have a3 := hat 3 (by omega)
        have a4 := hat 4 (by omega)
        rw [Deep.add_add] at a0 a1 a2 a3 a4
        exact ⟨E, fun _ => ⟨⟨e1, e2, e3, open_tm ht, e4⟩, a0, a1, a2, a3, a4⟩⟩
      · exact ⟨zeroE, fun h => absurd h hi⟩
    obtain ⟨Lf, hLf⟩ := Classical.axiomOfChoice each
    have e1 : ((List.range len).map Lf).length = len := by simp
    refine ⟨(List.range len).map Lf, ?_, ?_, fun N hN => ⟨?_, ?_⟩⟩
    · refine ⟨by rw [ecs_len], some a, cap, by rw [e1], fun h0 => ?_⟩
      rw [e1] at h0
      have ha := spot_none (hLf 0 h0).2.1
      rw [show a.add (0 * 5) = a from by simp [Addr.add]] at ha
      refine ⟨a.block, a.off, by rw [← ha], fun j u hu => ?_⟩
      have hj : j < len * 5 := by
        have := (List.getElem?_eq_some_iff.1 hu).1
        rwa [ecs_len, e1] at this
      have hi : j / 5 < len := by omega
      obtain ⟨-, b0, b1, b2, b3, b4⟩ := hLf (j / 5) hi
      obtain ⟨d0, d1, d2, d3, d4⟩ := ecs_get (l := (List.range len).map Lf) (k := j / 5) (E := Lf (j / 5)) (by simp [hi])
      rw [ha, addr_add] at b0 b1 b2 b3 b4
      rcases (by omega : j = j / 5 * 5 ∨ j = j / 5 * 5 + 1 ∨ j = j / 5 * 5 + 2 ∨ j = j / 5 * 5 + 3 ∨ j = j / 5 * 5 + 4) with e | e | e | e | e
      · rw [e] at hu ⊢; rw [d0] at hu; cases hu; exact b0
      · rw [e] at hu ⊢; rw [d1] at hu; cases hu; exact b1
      · rw [e] at hu ⊢; rw [d2] at hu; cases hu; exact b2
      · rw [e] at hu ⊢; rw [d3] at hu; cases hu; exact b3
      · rw [e] at hu ⊢; rw [d4] at hu; cases hu; exact b4
    · intro u hu
      simp at hu
      obtain ⟨i, hi, rfl⟩ := hu
      obtain ⟨⟨q1, q2, q3, q5, -⟩, -⟩ := hLf i hi
      exact ⟨q1, q2, q3, q5⟩
    · subst hxx
      have hw := hN (((((List.range len).map D).length) + ((List.range (m - len)).map fun j => D (len + j)).length) * Try.prog.bytesOf 51) (by simp [DataW.weights, Try.underlying40])
      rw [show Try.prog.bytesOf 51 = 80 from by kernel_rfl] at hw
      refine Nat.le_trans (Nat.mul_le_mul_right _ ?_) hw
      simp
    · intro u hu
      simp at hu
      obtain ⟨i, hi, rfl⟩ := hu
      obtain ⟨⟨-, -, -, -, q4⟩, -⟩ := hLf i hi
      refine q4 N (fun q hq => hN q ?_)
      subst hxx
      simp only [DataW.weights, Try.underlying40, List.mem_cons]
      refine .inr ?_
      exact List.mem_append.2 (.inl (weightsAll_mem (d := D i) (by simp; exact ⟨i, hi, rfl⟩) hq))
end Go.Proofs.Ythhmmjpgefinmaa
