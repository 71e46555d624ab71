/- rows of values that came in -/
import Derived.Test.YthhjioehkgbphaaDiffD
import Derived.Deep.Slices
import Derived.ChangeSame
import Derived.ChangeMaps5
namespace Go.Proofs.Ythhjioehkgbphaa
set_option linter.unusedVariables false
set_option linter.unusedSimpArgs false
open Go.RowKit Go.Shelf Go.ChangeShapes Go.WideShapes Go.Deep

theorem spot_none {W : World} {a : Addr} {v : Value} (h : W.cell? a = some v) : a = ⟨a.block, a.off, none⟩ := by
  obtain ⟨b, o, s⟩ := a
  cases s with
  | none => rfl
  | some x =>
    unfold World.cell? at h
    split at h <;> simp at h
theorem weightsAll_mem {H : Type} {P : Program} {e : TypeId} {d : DataW H} {n : Nat} : ∀ {ds : List (DataW H)}, d ∈ ds → n ∈ d.weights P e → n ∈ DataW.weightsAll P e ds
  | [], h, _ => by cases h
  | x :: ds, h, hn => by
    simp only [DataW.weightsAll, List.mem_append]
    rcases List.mem_cons.1 h with h | h
    · subst h; exact .inl hn
    · exact .inr (weightsAll_mem h hn)
/-- a value: three cells -/
theorem open_val {H : Type} {enc : TypeId × Value → H} {W : World} {sp : Nat → Bool} {held : Bool} {fuel : Nat} {cs : List Value} {x : DataW H × List MemPlace} (h : DataW.trod enc Try.prog W 0 sp held fuel 46 cs = some x) :
    ∃ u : Val, cs = [.int .i64 u.1, .int .i64 u.2.1, .string u.2.2] ∧ u.2.2.size ≤ maxLen := by
  obtain ⟨ys, n, -, -, hl, hyz, hf⟩ := DataW.trod_struct Try.underlying46 h
  rw [show Try.prog.cellsOf 46 = 3 from by kernel_rfl] at hl
  obtain ⟨c0, c1, c2, rfl⟩ : ∃ c0 c1 c2, cs = [c0, c1, c2] := by
    match cs, hl with
    | [a, b, c], _ => exact ⟨a, b, c, rfl⟩
  have h0 : DataW.trod enc Try.prog W 0 sp held n 44 (([c0, c1, c2].drop 0).take (Try.prog.cellsOf 44)) = ys[0]? := hf 0 _ rfl
  have h1 : DataW.trod enc Try.prog W 0 sp held n 3 (([c0, c1, c2].drop 1).take (Try.prog.cellsOf 3)) = ys[1]? := hf 1 _ rfl
  have h2 : DataW.trod enc Try.prog W 0 sp held n 9 (([c0, c1, c2].drop 2).take (Try.prog.cellsOf 9)) = ys[2]? := hf 2 _ rfl
  rw [show Try.prog.cellsOf 44 = 1 from by kernel_rfl] at h0
  rw [show Try.prog.cellsOf 3 = 1 from by kernel_rfl] at h1
  rw [show Try.prog.cellsOf 9 = 1 from by kernel_rfl] at h2
  simp only [List.drop_zero, List.drop_succ_cons, List.take_succ_cons, List.take_zero] at h0 h1 h2
  have hs : ∀ i : Nat, i < 3 → ∃ y, ys[i]? = some y := by
    intro i hi
    have : i < ys.length := by
      have hz : ys.length = 3 := hyz
      omega
    exact ⟨ys[i], List.getElem?_eq_getElem this⟩
  obtain ⟨y0, e0⟩ := hs 0 (by omega)
  obtain ⟨y1, e1⟩ := hs 1 (by omega)
  obtain ⟨y2, e2⟩ := hs 2 (by omega)
  rw [e0] at h0
  rw [e1] at h1
  rw [e2] at h2
  obtain ⟨k, g0, -, -⟩ := DataW.trod_int Try.underlying44 h0
  obtain ⟨m, g1, -, -⟩ := DataW.trod_int Try.underlying3 h1
  obtain ⟨s, g2, -, g3⟩ := DataW.trod_string Try.underlying9 h2
  cases g0; cases g1; cases g2
  exact ⟨(k, m, s), rfl, g3⟩
/-- the bulk of a row -/
theorem open_vals {H : Type} {enc : TypeId × Value → H} {W : World} {sp : Nat → Bool} {held : Bool} {fuel : Nat} {v : Value} {x : DataW H × List MemPlace} (h : DataW.trod enc Try.prog W 0 sp held fuel 22 [v] = some x) :
    ∃ l : List Val, RdrV W v l ∧ (∀ u ∈ l, u.2.2.size ≤ maxLen) ∧ (∀ n, (∀ m ∈ x.1.weights Try.prog 22, m ≤ n) → l.length * 32 ≤ n) ∧ ∀ p n c, v = .slice p n c → n ≤ c := by
  rcases Deep.open_slice Try.underlying22 h with ⟨h1, -⟩ | ⟨a, len, cap, m, n, D, Pl, h1, -, hl, hm, hz, hxx, hx⟩
  · cases h1
    exact ⟨[], Rdr.nil _ _ _ _, by simp, by simp, by rintro p n c h; cases h; exact Nat.le_refl _⟩
  · cases h1
    have hle : len ≤ m := by rw [hz]; split <;> omega
    have hc3 : Try.prog.cellsOf 46 = 3 := by kernel_rfl
    rw [hc3] at hx
    have each : ∀ i, ∃ u : Val, i < len → u.2.2.size ≤ maxLen ∧ W.cell? (a.add (i * 3)) = some (.int .i64 u.1) ∧ W.cell? (a.add (i * 3 + 1)) = some (.int .i64 u.2.1) ∧ W.cell? (a.add (i * 3 + 2)) = some (.string u.2.2) := by
      intro i
      by_cases hi : i < len
      · obtain ⟨cs', hcs, ht⟩ := hx i (by omega)
        obtain ⟨u, rfl, hu⟩ := open_val ht
        obtain ⟨-, -, hat⟩ := World.cells?_some hcs
        have a0 := hat 0 (by omega)
        have a1 := hat 1 (by omega)
        have a2 := hat 2 (by omega)
        rw [Deep.add_add] at a0 a1 a2
        exact ⟨u, fun _ => ⟨hu, a0, a1, a2⟩⟩
      · exact ⟨(0, 0, ⟨#[]⟩), fun h => absurd h hi⟩
    obtain ⟨Lf, hLf⟩ := Classical.axiomOfChoice each
    have e1 : ((List.range len).map Lf).length = len := by simp
    refine ⟨(List.range len).map Lf, ?_, ?_, fun N hN => ?_, by rintro p n c h; cases h; exact hl⟩
    · unfold RdrV
      refine ⟨by rw [vcells_len], some a, cap, by rw [e1], fun h0 => ?_⟩
      rw [e1] at h0
      have ha := spot_none (hLf 0 h0).2.1
      rw [show a.add (0 * 3) = a from by simp [Addr.add]] at ha
      refine ⟨a.block, a.off, by rw [← ha], fun j u hu => ?_⟩
      have hj : j < len * 3 := by
        have := (List.getElem?_eq_some_iff.1 hu).1
        rwa [vcells_len, e1] at this
      have hi : j / 3 < len := by omega
      obtain ⟨-, b0, b1, b2⟩ := hLf (j / 3) hi
      obtain ⟨d0, d1, d2⟩ := vcells_get (l := (List.range len).map Lf) (k := j / 3) (x := Lf (j / 3)) (by simp [hi])
      rw [ha, addr_add] at b0 b1 b2
      rcases (by omega : j = j / 3 * 3 ∨ j = j / 3 * 3 + 1 ∨ j = j / 3 * 3 + 2) with e | e | e
      · rw [e] at hu ⊢; rw [d0] at hu; cases hu; exact b0
      · rw [e] at hu ⊢; rw [d1] at hu; cases hu; exact b1
      · rw [e] at hu ⊢; rw [d2] at hu; cases hu; exact b2
    · intro u hu
      simp at hu
      obtain ⟨i, hi, rfl⟩ := hu
      exact (hLf i hi).1
    · subst hxx
      have hw := hN (((((List.range len).map D).length) + ((List.range (m - len)).map fun j => D (len + j)).length) * Try.prog.bytesOf 46) (by simp [DataW.weights, Try.underlying22])
      rw [show Try.prog.bytesOf 46 = 32 from by kernel_rfl] at hw
      refine Nat.le_trans (Nat.mul_le_mul_right _ ?_) hw
      simp
/-- rows of rows -/
theorem open_valrows {H : Type} {enc : TypeId × Value → H} {W : World} {sp : Nat → Bool} {held : Bool} {fuel : Nat} {v : Value} {x : DataW H × List MemPlace} (h : DataW.trod enc Try.prog W 0 sp held fuel 25 [v] = some x) :
    ∃ ls : List (List Val), RdrRV W v ls ∧ (∀ l ∈ ls, ∀ u ∈ l, u.2.2.size ≤ maxLen) ∧ (∀ n, (∀ m ∈ x.1.weights Try.prog 25, m ≤ n) → ls.length * 24 ≤ n ∧ ∀ l ∈ ls, l.length * 32 ≤ n) ∧ ∀ p n c, v = .slice p n c → n ≤ c := by
  rcases Deep.open_slice1 Try.underlying25 (by kernel_rfl) h with ⟨h1, -⟩ | ⟨a, len, cap, m, n, V, D, Pl, h1, -, hl, hm, hz, hxx, hx⟩
  · cases h1
    exact ⟨[], ⟨[], Rdr.nil _ _ _ _, by simp⟩, by simp, by simp, by rintro p n c h; cases h; exact Nat.le_refl _⟩
  · cases h1
    have hle : len ≤ m := by rw [hz]; split <;> omega
    have each : ∀ i, ∃ l : List Val, i < len → RdrV W (V i) l ∧ (∀ u ∈ l, u.2.2.size ≤ maxLen) ∧ ∀ n, (∀ m ∈ (D i).weights Try.prog 22, m ≤ n) → l.length * 32 ≤ n := by
      intro i
      by_cases hi : i < len
      · obtain ⟨l, h1, h2, h3, -⟩ := open_vals (hx i (by omega)).2
        exact ⟨l, fun _ => ⟨h1, h2, h3⟩⟩
      · exact ⟨[], fun h => absurd h hi⟩
    obtain ⟨Lf, hLf⟩ := Classical.axiomOfChoice each
    have e1 : ((List.range len).map Lf).length = len := by simp
    refine ⟨(List.range len).map Lf, ⟨(List.range len).map V, ?_, ?_⟩, ?_, fun N hN => ⟨?_, ?_⟩, by rintro p n c h; cases h; exact hl⟩
    · rw [e1]
      refine ⟨by simp, _, _, rfl, fun hn => ?_⟩
      have h0 := (hx 0 (by omega)).1
      have ha := spot_none h0
      rw [show a.add 0 = a from by simp [Addr.add]] at ha h0
      refine ⟨a.block, a.off, by rw [← ha], fun j u hu => ?_⟩
      have hj : j < len := by
        have := (List.getElem?_eq_some_iff.1 hu).1
        simpa using this
      have hcj := (hx j (by omega)).1
      rw [ha, addr_add] at hcj
      rw [hcj]
      simpa [hj] using hu
    · intro i l hil
      have hi : i < len := by
        have := (List.getElem?_eq_some_iff.1 hil).1
        simpa using this
      have : Lf i = l := by simpa [hi] using hil
      subst this
      exact ⟨V i, by simp [hi], (hLf i hi).1⟩
    · intro l hl
      simp at hl
      obtain ⟨i, hi, rfl⟩ := hl
      exact (hLf i hi).2.1
    · subst hxx
      have hw := hN (((((List.range len).map D).length) + ((List.range (m - len)).map fun j => D (len + j)).length) * Try.prog.bytesOf 22) (by simp [DataW.weights, Try.underlying25])
      rw [show Try.prog.bytesOf 22 = 24 from by kernel_rfl] at hw
      refine Nat.le_trans (Nat.mul_le_mul_right _ ?_) hw
      simp
    · intro l hl
      simp at hl
      obtain ⟨i, hi, rfl⟩ := hl
      refine (hLf i hi).2.2 N (fun q hq => hN q ?_)
      subst hxx
      simp only [DataW.weights, Try.underlying25]
      refine List.mem_cons_of_mem _ (List.mem_append_left _ (weightsAll_mem (d := D i) ?_ hq))
      simp
      exact ⟨i, hi, rfl⟩
end Go.Proofs.Ythhjioehkgbphaa
