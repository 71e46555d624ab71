/- rows of items, deeds that came in -/
import Derived.Test.YthdeehpnlcpbnaaHeapR
import Derived.Deep.Slices
import Derived.ChangeSame
import Derived.ChangeMaps5
namespace Go.Proofs.Ythdeehpnlcpbnaa
set_option linter.unusedVariables false
set_option linter.unusedSimpArgs false
open Go.RowKit Go.Shelf Go.ChangeShapes Go.WideShapes Go.Deep

theorem spot_none {W : World} {a : Addr} {v : Value} (h : W.cell? a = some v) : a = ⟨a.block, a.off, none⟩ := by
  obtain ⟨b, o, s⟩ := a
  cases s with
  | none => rfl
  | some x =>
    unfold World.cell? at h
    split at h <;> simp at h
theorem weightsAll_mem {H : Type} {P : Program} {e : TypeId} {d : DataW H} {n : Nat} : ∀ {ds : List (DataW H)}, d ∈ ds → n ∈ d.weights P e → n ∈ DataW.weightsAll P e ds
  | [], h, _ => by cases h
  | x :: ds, h, hn => by
    simp only [DataW.weightsAll, List.mem_append]
    rcases List.mem_cons.1 h with h | h
    · subst h; exact .inl hn
    · exact .inr (weightsAll_mem h hn)
/-- an item: two cells -/
theorem open_item {H : Type} {enc : TypeId × Value → H} {W : World} {sp : Nat → Bool} {held : Bool} {fuel : Nat} {cs : List Value} {x : DataW H × List MemPlace} (h : DataW.trod enc Try.prog W 0 sp held fuel 40 cs = some x) :
    ∃ u : Item, cs = [.int .i64 u.1, .int .i64 u.2] ∧ u.1 ≤ 9223372036854775807 := by
  obtain ⟨ys, n, -, -, hl, hyz, hf⟩ := DataW.trod_struct Try.underlying40 h
  rw [show Try.prog.cellsOf 40 = 2 from by kernel_rfl] at hl
  obtain ⟨c0, c1, rfl⟩ : ∃ c0 c1, cs = [c0, c1] := by
    match cs, hl with
    | [a, b], _ => exact ⟨a, b, rfl⟩
  have h0 : DataW.trod enc Try.prog W 0 sp held n 3 (([c0, c1].drop 0).take (Try.prog.cellsOf 3)) = ys[0]? := hf 0 _ rfl
  have h1 : DataW.trod enc Try.prog W 0 sp held n 3 (([c0, c1].drop 1).take (Try.prog.cellsOf 3)) = ys[1]? := hf 1 _ rfl
  rw [show Try.prog.cellsOf 3 = 1 from by kernel_rfl] at h0 h1
  simp only [List.drop_zero, List.drop_succ_cons, List.take_succ_cons, List.take_zero] at h0 h1
  have hs : ∀ i : Nat, i < 2 → ∃ y, ys[i]? = some y := by
    intro i hi
    have : i < ys.length := by
      have hz : ys.length = 2 := hyz
      omega
    exact ⟨ys[i], List.getElem?_eq_getElem this⟩
  obtain ⟨y0, e0⟩ := hs 0 (by omega)
  obtain ⟨y1, e1⟩ := hs 1 (by omega)
  rw [e0] at h0
  rw [e1] at h1
  obtain ⟨k, g0, -, gk⟩ := DataW.trod_int Try.underlying3 h0
  obtain ⟨m, g1, -, -⟩ := DataW.trod_int Try.underlying3 h1
  cases g0; cases g1
  refine ⟨(k, m), rfl, ?_⟩
  have hmx : IntKind.i64.max = 9223372036854775807 := by decide
  simp only [Lit.wf, hmx, Bool.and_eq_true, decide_eq_true_eq] at gk
  exact gk.2
/-- the bulk of a row -/
theorem open_items {H : Type} {enc : TypeId × Value → H} {W : World} {sp : Nat → Bool} {held : Bool} {fuel : Nat} {v : Value} {x : DataW H × List MemPlace} (h : DataW.trod enc Try.prog W 0 sp held fuel 22 [v] = some x) :
    ∃ l : List Item, Rdr W 2 v l.length (icells l) ∧ (∀ u ∈ l, u.1 ≤ 9223372036854775807) ∧ (∀ n, (∀ m ∈ x.1.weights Try.prog 22, m ≤ n) → l.length * 16 ≤ n) := by
  rcases Deep.open_slice Try.underlying22 h with ⟨h1, -⟩ | ⟨a, len, cap, m, n, D, Pl, h1, -, hl, hm, hz, hxx, hx⟩
  · cases h1
    exact ⟨[], Rdr.nil _ _ _ _, by simp, by simp⟩
  · cases h1
    have hle : len ≤ m := by rw [hz]; split <;> omega
    have hc3 : Try.prog.cellsOf 40 = 2 := by kernel_rfl
    rw [hc3] at hx
    have each : ∀ i, ∃ u : Item, i < len → u.1 ≤ 9223372036854775807 ∧ W.cell? (a.add (i * 2)) = some (.int .i64 u.1) ∧ W.cell? (a.add (i * 2 + 1)) = some (.int .i64 u.2) := by
      intro i
      by_cases hi : i < len
      · obtain ⟨cs', hcs, ht⟩ := hx i (by omega)
        obtain ⟨u, rfl, hu⟩ := open_item ht
        obtain ⟨-, -, hat⟩ := World.cells?_some hcs
        have a0 := hat 0 (by omega)
        have a1 := hat 1 (by omega)
        rw [Deep.add_add] at a0 a1
        exact ⟨u, fun _ => ⟨hu, a0, a1⟩⟩
      · exact ⟨(0, 0), fun h => absurd h hi⟩
    obtain ⟨Lf, hLf⟩ := Classical.axiomOfChoice each
    have e1 : ((List.range len).map Lf).length = len := by simp
    refine ⟨(List.range len).map Lf, ?_, ?_, fun N hN => ?_⟩
    · refine ⟨by rw [icells_len], some a, cap, by rw [e1], fun h0 => ?_⟩
      rw [e1] at h0
      have ha := spot_none (hLf 0 h0).2.1
      rw [show a.add (0 * 2) = a from by simp [Addr.add]] at ha
      refine ⟨a.block, a.off, by rw [← ha], fun j u hu => ?_⟩
      have hj : j < len * 2 := by
        have := (List.getElem?_eq_some_iff.1 hu).1
        rwa [icells_len, e1] at this
      have hi : j / 2 < len := by omega
      obtain ⟨-, b0, b1⟩ := hLf (j / 2) hi
      obtain ⟨d0, d1⟩ := icells_get (l := (List.range len).map Lf) (k := j / 2) (x := Lf (j / 2)) (by simp [hi])
      rw [ha, addr_add] at b0 b1
      rcases (by omega : j = j / 2 * 2 ∨ j = j / 2 * 2 + 1) with e | e
      · rw [e] at hu ⊢; rw [d0] at hu; cases hu; exact b0
      · rw [e] at hu ⊢; rw [d1] at hu; cases hu; exact b1
    · intro u hu
      simp at hu
      obtain ⟨i, hi, rfl⟩ := hu
      exact (hLf i hi).1
    · subst hxx
      have hw := hN (((((List.range len).map D).length) + ((List.range (m - len)).map fun j => D (len + j)).length) * Try.prog.bytesOf 40) (by simp [DataW.weights, Try.underlying22])
      rw [show Try.prog.bytesOf 40 = 16 from by kernel_rfl] at hw
      refine Nat.le_trans (Nat.mul_le_mul_right _ ?_) hw
      simp
/-- a deed: four cells -/
theorem open_deed {H : Type} {enc : TypeId × Value → H} {W : World} {sp : Nat → Bool} {held : Bool} {fuel : Nat} {cs : List Value} {x : DataW H × List MemPlace} (h : DataW.trod enc Try.prog W 0 sp held fuel 34 cs = some x) :
    ∃ d : Dd, cs = [.int .i64 d.what, .int .i64 d.key, .int .i64 d.many, d.v] ∧ Rdr W 2 d.v d.xs.length (icells d.xs) ∧ (∀ u ∈ d.xs, u.1 ≤ 9223372036854775807) ∧ (∀ n, (∀ m ∈ x.1.weights Try.prog 34, m ≤ n) → d.xs.length * 16 ≤ n) := by
  obtain ⟨ys, n, -, hxx, hl, hyz, hf⟩ := DataW.trod_struct Try.underlying34 h
  rw [show Try.prog.cellsOf 34 = 4 from by kernel_rfl] at hl
  obtain ⟨c0, c1, c2, c3, rfl⟩ : ∃ c0 c1 c2 c3, cs = [c0, c1, c2, c3] := by
    match cs, hl with
    | [a, b, c, d], _ => exact ⟨a, b, c, d, rfl⟩
  have h0 : DataW.trod enc Try.prog W 0 sp held n 3 (([c0, c1, c2, c3].drop 0).take (Try.prog.cellsOf 3)) = ys[0]? := hf 0 _ rfl
  have h1 : DataW.trod enc Try.prog W 0 sp held n 3 (([c0, c1, c2, c3].drop 1).take (Try.prog.cellsOf 3)) = ys[1]? := hf 1 _ rfl
  have h2 : DataW.trod enc Try.prog W 0 sp held n 3 (([c0, c1, c2, c3].drop 2).take (Try.prog.cellsOf 3)) = ys[2]? := hf 2 _ rfl
  have h3 : DataW.trod enc Try.prog W 0 sp held n 22 (([c0, c1, c2, c3].drop 3).take (Try.prog.cellsOf 22)) = ys[3]? := hf 3 _ rfl
  rw [show Try.prog.cellsOf 3 = 1 from by kernel_rfl] at h0 h1 h2
  rw [show Try.prog.cellsOf 22 = 1 from by kernel_rfl] at h3
  simp only [List.drop_zero, List.drop_succ_cons, List.take_succ_cons, List.take_zero] at h0 h1 h2 h3
  have hz : ys.length = 4 := hyz
  obtain ⟨y0, y1, y2, y3, rfl⟩ : ∃ y0 y1 y2 y3, ys = [y0, y1, y2, y3] := by
    match ys, hz with
    | [a, b, c, d], _ => exact ⟨a, b, c, d, rfl⟩
  obtain ⟨k, g0, gx0, -⟩ := DataW.trod_int Try.underlying3 h0
  obtain ⟨m, g1, gx1, -⟩ := DataW.trod_int Try.underlying3 h1
  obtain ⟨p, g2, gx2, -⟩ := DataW.trod_int Try.underlying3 h2
  obtain ⟨l, hr, hk, hw⟩ := open_items h3
  cases g0; cases g1; cases g2
  refine ⟨⟨k, m, p, c3, l⟩, rfl, hr, hk, fun N hN => hw N (fun q hq => hN q ?_)⟩
  subst hxx
  simp only [DataW.weights, Try.underlying34, List.map_cons, List.map_nil, DataW.weightsEach, List.mem_append]
  exact .inr (.inr (.inr (.inl hq)))
/-- deeds -/
theorem open_deeds {H : Type} {enc : TypeId × Value → H} {W : World} {sp : Nat → Bool} {held : Bool} {fuel : Nat} {v : Value} {x : DataW H × List MemPlace} (h : DataW.trod enc Try.prog W 0 sp held fuel 23 [v] = some x) :
    ∃ l : List Dd, RdrD W v l ∧ (∀ d ∈ l, ∀ u ∈ d.xs, u.1 ≤ 9223372036854775807) ∧ (∀ n, (∀ m ∈ x.1.weights Try.prog 23, m ≤ n) → l.length * 48 ≤ n ∧ ∀ d ∈ l, d.xs.length * 16 ≤ n) := by
  rcases Deep.open_slice Try.underlying23 h with ⟨h1, -⟩ | ⟨a, len, cap, m, n, D, Pl, h1, -, hl, hm, hz, hxx, hx⟩
  · cases h1
    exact ⟨[], ⟨Rdr.nil _ _ _ _, by simp⟩, by simp, by simp⟩
  · cases h1
    have hle : len ≤ m := by rw [hz]; split <;> omega
    have hc3 : Try.prog.cellsOf 34 = 4 := by kernel_rfl
    rw [hc3] at hx
    have each : ∀ i, ∃ d : Dd, i < len → (Rdr W 2 d.v d.xs.length (icells d.xs) ∧ (∀ u ∈ d.xs, u.1 ≤ 9223372036854775807) ∧ (∀ n, (∀ m ∈ (D i).weights Try.prog 34, m ≤ n) → d.xs.length * 16 ≤ n)) ∧
        W.cell? (a.add (i * 4)) = some (.int .i64 d.what) ∧ W.cell? (a.add (i * 4 + 1)) = some (.int .i64 d.key) ∧ W.cell? (a.add (i * 4 + 2)) = some (.int .i64 d.many) ∧ W.cell? (a.add (i * 4 + 3)) = some d.v := by
      intro i
      by_cases hi : i < len
      · obtain ⟨cs', hcs, ht⟩ := hx i (by omega)
        obtain ⟨d, rfl, hd⟩ := open_deed ht
        obtain ⟨-, -, hat⟩ := World.cells?_some hcs
        have a0 := hat 0 (by omega)
        have a1 := hat 1 (by omega)
        have a2 := hat 2 (by omega)
        have a3 := hat 3 (by omega)
        rw [Deep.add_add] at a0 a1 a2 a3
        exact ⟨d, fun _ => ⟨hd, a0, a1, a2, a3⟩⟩
      · exact ⟨⟨0, 0, 0, .slice none 0 0, []⟩, fun h => absurd h hi⟩
    obtain ⟨Lf, hLf⟩ := Classical.axiomOfChoice each
    have e1 : ((List.range len).map Lf).length = len := by simp
    have dlen : ∀ l : List Dd, (dcells l).length = l.length * 4 := fun l => by
      induction l with
      | nil => rfl
      | cons d l ih => simp [dcells, ih]; omega
    refine ⟨(List.range len).map Lf, ⟨⟨by rw [dlen], some a, cap, by rw [e1], fun h0 => ?_⟩, ?_⟩, ?_, fun N hN => ⟨?_, ?_⟩⟩
    · rw [e1] at h0
      have ha := spot_none (hLf 0 h0).2.1
      rw [show a.add (0 * 4) = a from by simp [Addr.add]] at ha
      refine ⟨a.block, a.off, by rw [← ha], fun j u hu => ?_⟩
      have hj : j < len * 4 := by
        have := (List.getElem?_eq_some_iff.1 hu).1
        rwa [dlen, e1] at this
      have hi : j / 4 < len := by omega
      obtain ⟨-, b0, b1, b2, b3⟩ := hLf (j / 4) hi
      obtain ⟨d0, d1, d2, d3⟩ := dcells_get (ds := (List.range len).map Lf) (k := j / 4) (d := Lf (j / 4)) (by simp [hi])
      rw [ha, addr_add] at b0 b1 b2 b3
      rcases (by omega : j = j / 4 * 4 ∨ j = j / 4 * 4 + 1 ∨ j = j / 4 * 4 + 2 ∨ j = j / 4 * 4 + 3) with e | e | e | e
      · rw [e] at hu ⊢; rw [d0] at hu; cases hu; exact b0
      · rw [e] at hu ⊢; rw [d1] at hu; cases hu; exact b1
      · rw [e] at hu ⊢; rw [d2] at hu; cases hu; exact b2
      · rw [e] at hu ⊢; rw [d3] at hu; cases hu; exact b3
    · intro d hd
      simp at hd
      obtain ⟨i, hi, rfl⟩ := hd
      exact (hLf i hi).1.1
    · intro d hd
      simp at hd
      obtain ⟨i, hi, rfl⟩ := hd
      exact (hLf i hi).1.2.1
    · subst hxx
      have hw := hN (((((List.range len).map D).length) + ((List.range (m - len)).map fun j => D (len + j)).length) * Try.prog.bytesOf 34) (by simp [DataW.weights, Try.underlying23])
      rw [show Try.prog.bytesOf 34 = 48 from by kernel_rfl] at hw
      refine Nat.le_trans (Nat.mul_le_mul_right _ ?_) hw
      simp
    · intro d hd
      simp at hd
      obtain ⟨i, hi, rfl⟩ := hd
      refine (hLf i hi).1.2.2 N (fun q hq => hN q ?_)
      subst hxx
      simp only [DataW.weights, Try.underlying23]
      refine List.mem_cons_of_mem _ (List.mem_append_left _ (weightsAll_mem (d := D i) ?_ hq))
      simp
      exact ⟨i, hi, rfl⟩
end Go.Proofs.Ythdeehpnlcpbnaa
