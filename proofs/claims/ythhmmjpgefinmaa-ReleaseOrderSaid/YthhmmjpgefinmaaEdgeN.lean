/- laid together: EdgeN -/
import Derived.Test.YthhmmjpgefinmaaEdgeF
import Derived.Deep.Slices
import Derived.ChangeSame
import Derived.ChangeMaps5
set_option maxRecDepth 10000
/- bytes, props, edges, rows of edges that came in -/
namespace Go.Proofs.Ythhmmjpgefinmaa
set_option linter.unusedVariables false
set_option linter.unusedSimpArgs false
open Go.RowKit Go.Shelf Go.ChangeShapes Go.WideShapes Go.Deep

theorem spot_none {W : World} {a : Addr} {v : Value} (h : W.cell? a = some v) : a = ⟨a.block, a.off, none⟩ := by
  obtain ⟨b, o, s⟩ := a
  cases s with
  | none => rfl
  | some x =>
    unfold World.cell? at h
    split at h <;> simp at h
theorem weightsAll_mem {H : Type} {P : Program} {e : TypeId} {d : DataW H} {n : Nat} : ∀ {ds : List (DataW H)}, d ∈ ds → n ∈ d.weights P e → n ∈ DataW.weightsAll P e ds
  | [], h, _ => by cases h
  | x :: ds, h, hn => by
    simp only [DataW.weightsAll, List.mem_append]
    rcases List.mem_cons.1 h with h | h
    · subst h; exact .inl hn
    · exact .inr (weightsAll_mem h hn)
/-- a value: three cells -/
theorem open_val {H : Type} {enc : TypeId × Value → H} {W : World} {sp : Nat → Bool} {held : Bool} {fuel : Nat} {cs : List Value} {x : DataW H × List MemPlace} (h : DataW.trod enc Try.prog W 0 sp held fuel 103 cs = some x) :
    ∃ u : Val, cs = [.int .i64 u.1, .int .i64 u.2.1, .string u.2.2] ∧ u.2.2.size ≤ maxLen := by
  obtain ⟨ys, n, -, -, hl, hyz, hf⟩ := DataW.trod_struct Try.underlying103 h
  rw [show Try.prog.cellsOf 103 = 3 from by kernel_rfl] at hl
  obtain ⟨c0, c1, c2, rfl⟩ : ∃ c0 c1 c2, cs = [c0, c1, c2] := by
    match cs, hl with
    | [a, b, c], _ => exact ⟨a, b, c, rfl⟩
  have h0 : DataW.trod enc Try.prog W 0 sp held n 101 (([c0, c1, c2].drop 0).take (Try.prog.cellsOf 101)) = ys[0]? := hf 0 _ rfl
  have h1 : DataW.trod enc Try.prog W 0 sp held n 3 (([c0, c1, c2].drop 1).take (Try.prog.cellsOf 3)) = ys[1]? := hf 1 _ rfl
  have h2 : DataW.trod enc Try.prog W 0 sp held n 9 (([c0, c1, c2].drop 2).take (Try.prog.cellsOf 9)) = ys[2]? := hf 2 _ rfl
  rw [show Try.prog.cellsOf 101 = 1 from by kernel_rfl] at h0
  rw [show Try.prog.cellsOf 3 = 1 from by kernel_rfl] at h1
  rw [show Try.prog.cellsOf 9 = 1 from by kernel_rfl] at h2
  simp only [List.drop_zero, List.drop_succ_cons, List.take_succ_cons, List.take_zero] at h0 h1 h2
  have hs : ∀ i : Nat, i < 3 → ∃ y, ys[i]? = some y := by
    intro i hi
    have : i < ys.length := by
      have hz : ys.length = 3 := hyz
      omega
    exact ⟨ys[i], List.getElem?_eq_getElem this⟩
  obtain ⟨y0, e0⟩ := hs 0 (by omega)
  obtain ⟨y1, e1⟩ := hs 1 (by omega)
  obtain ⟨y2, e2⟩ := hs 2 (by omega)
  rw [e0] at h0
  rw [e1] at h1
  rw [e2] at h2
  obtain ⟨k, g0, -, -⟩ := DataW.trod_int Try.underlying101 h0
  obtain ⟨m, g1, -, -⟩ := DataW.trod_int Try.underlying3 h1
  obtain ⟨s, g2, -, g3⟩ := DataW.trod_string Try.underlying9 h2
  cases g0; cases g1; cases g2
  exact ⟨(k, m, s), rfl, g3⟩
/-- bytes -/
theorem open_byte {H : Type} {enc : TypeId × Value → H} {W : World} {sp : Nat → Bool} {held : Bool} {fuel : Nat} {v : Value} {x : DataW H × List MemPlace} (h : DataW.trod enc Try.prog W 0 sp held fuel 5 [v] = some x) : ∃ c : UInt8, v = .int .u8 (c.toNat : Int) := by
  obtain ⟨k, g0, -, gk⟩ := DataW.trod_int Try.underlying5 h
  cases g0
  have hmx : IntKind.u8.max = 255 := by decide
  have hmn : IntKind.u8.min = 0 := by decide
  simp only [Lit.wf, hmx, hmn, Bool.and_eq_true, decide_eq_true_eq] at gk
  refine ⟨UInt8.ofNat k.toNat, ?_⟩
  rw [UInt8.toNat_ofNat']
  have : k.toNat % 2 ^ 8 = k.toNat := Nat.mod_eq_of_lt (by omega)
  rw [this, Int.toNat_of_nonneg gk.1]
/-- a prop: four cells -/
theorem open_prop {H : Type} {enc : TypeId × Value → H} {W : World} {sp : Nat → Bool} {held : Bool} {fuel : Nat} {cs : List Value} {x : DataW H × List MemPlace} (h : DataW.trod enc Try.prog W 0 sp held fuel 105 cs = some x) :
    ∃ u : Prp, cs = [.string u.1, .int .i64 u.2.1, .int .i64 u.2.2.1, .string u.2.2.2] ∧ u.1.size ≤ maxLen ∧ u.2.2.2.size ≤ maxLen := by
  obtain ⟨ys, n, -, -, hl, hyz, hf⟩ := DataW.trod_struct Try.underlying105 h
  rw [show Try.prog.cellsOf 105 = 4 from by kernel_rfl] at hl
  obtain ⟨c0, c1, c2, c3, rfl⟩ : ∃ c0 c1 c2 c3, cs = [c0, c1, c2, c3] := by
    match cs, hl with
    | [a, b, c, d], _ => exact ⟨a, b, c, d, rfl⟩
  have h0 : DataW.trod enc Try.prog W 0 sp held n 9 (([c0, c1, c2, c3].drop 0).take (Try.prog.cellsOf 9)) = ys[0]? := hf 0 _ rfl
  have h1 : DataW.trod enc Try.prog W 0 sp held n 103 (([c0, c1, c2, c3].drop 1).take (Try.prog.cellsOf 103)) = ys[1]? := hf 1 _ rfl
  rw [show Try.prog.cellsOf 9 = 1 from by kernel_rfl] at h0
  rw [show Try.prog.cellsOf 103 = 3 from by kernel_rfl] at h1
  simp only [List.drop_zero, List.drop_succ_cons, List.take_succ_cons, List.take_zero] at h0 h1
  have hz : ys.length = 2 := hyz
  obtain ⟨y0, y1, rfl⟩ : ∃ y0 y1, ys = [y0, y1] := by
    match ys, hz with
    | [a, b], _ => exact ⟨a, b, rfl⟩
  obtain ⟨s, g0, -, g1⟩ := DataW.trod_string Try.underlying9 h0
  obtain ⟨u, hu, hsz⟩ := open_val h1
  cases g0; cases hu
  exact ⟨(s, u), rfl, g1, hsz⟩
theorem open_props {H : Type} {enc : TypeId × Value → H} {W : World} {sp : Nat → Bool} {held : Bool} {fuel : Nat} {v : Value} {x : DataW H × List MemPlace} (h : DataW.trod enc Try.prog W 0 sp held fuel 49 [v] = some x) :
    ∃ l : List Prp, Rdr W 4 v l.length (pcells l) ∧ PSz l ∧ (∀ n, (∀ m ∈ x.1.weights Try.prog 49, m ≤ n) → l.length * 48 ≤ n) := by
  rcases Deep.open_slice Try.underlying49 h with ⟨h1, -⟩ | ⟨a, len, cap, m, n, D, Pl, h1, -, hl, hm, hz, hxx, hx⟩
  · cases h1
    exact ⟨[], Rdr.nil _ _ _ _, (fun p hp => by cases hp), by simp⟩
  · cases h1
    have hle : len ≤ m := by rw [hz]; split <;> omega
    have hc3 : Try.prog.cellsOf 105 = 4 := by kernel_rfl
    rw [hc3] at hx
    have each : ∀ i, ∃ u : Prp, i < len → (u.1.size ≤ maxLen ∧ u.2.2.2.size ≤ maxLen) ∧ W.cell? (a.add (i * 4)) = some (.string u.1) ∧ W.cell? (a.add (i * 4 + 1)) = some (.int .i64 u.2.1) ∧ W.cell? (a.add (i * 4 + 2)) = some (.int .i64 u.2.2.1) ∧ W.cell? (a.add (i * 4 + 3)) = some (.string u.2.2.2) := by
      intro i
      by_cases hi : i < len
      · obtain ⟨cs', hcs, ht⟩ := hx i (by omega)
        obtain ⟨u, rfl, hu⟩ := open_prop ht
        obtain ⟨-, -, hat⟩ := World.cells?_some hcs
        have a0 := hat 0 (by omega)
        have a1 := hat 1 (by omega)
        have a2 := hat 2 (by omega)
        have a3 := hat 3 (by omega)
        rw [Deep.add_add] at a0 a1 a2 a3
        exact ⟨u, fun _ => ⟨hu, a0, a1, a2, a3⟩⟩
      · exact ⟨(⟨#[]⟩, 0, 0, ⟨#[]⟩), fun h => absurd h hi⟩
    obtain ⟨Lf, hLf⟩ := Classical.axiomOfChoice each
    have e1 : ((List.range len).map Lf).length = len := by simp
    refine ⟨(List.range len).map Lf, ?_, ?_, fun N hN => ?_⟩
    · refine ⟨by rw [pcells_len], some a, cap, by rw [e1], fun h0 => ?_⟩
      rw [e1] at h0
      have ha := spot_none (hLf 0 h0).2.1
      rw [show a.add (0 * 4) = a from by simp [Addr.add]] at ha
      refine ⟨a.block, a.off, by rw [← ha], fun j u hu => ?_⟩
      have hj : j < len * 4 := by
        have := (List.getElem?_eq_some_iff.1 hu).1
        rwa [pcells_len, e1] at this
      have hi : j / 4 < len := by omega
      obtain ⟨-, b0, b1, b2, b3⟩ := hLf (j / 4) hi
      obtain ⟨d0, d1, d2, d3⟩ := pcells_get (ps := (List.range len).map Lf) (k := j / 4) (p := Lf (j / 4)) (by simp [hi])
      rw [ha, addr_add] at b0 b1 b2 b3
      rcases (by omega : j = j / 4 * 4 ∨ j = j / 4 * 4 + 1 ∨ j = j / 4 * 4 + 2 ∨ j = j / 4 * 4 + 3) with e | e | e | e
      · rw [e] at hu ⊢; rw [d0] at hu; cases hu; exact b0
      · rw [e] at hu ⊢; rw [d1] at hu; cases hu; exact b1
      · rw [e] at hu ⊢; rw [d2] at hu; cases hu; exact b2
      · rw [e] at hu ⊢; rw [d3] at hu; cases hu; exact b3
    · intro u hu
      simp at hu
      obtain ⟨i, hi, rfl⟩ := hu
      exact (hLf i hi).1
    · subst hxx
      have hw := hN (((((List.range len).map D).length) + ((List.range (m - len)).map fun j => D (len + j)).length) * Try.prog.bytesOf 105) (by simp [DataW.weights, Try.underlying49])
      rw [show Try.prog.bytesOf 105 = 48 from by kernel_rfl] at hw
      refine Nat.le_trans (Nat.mul_le_mul_right _ ?_) hw
      simp
/-- an edge: five cells -/
theorem open_edge {H : Type} {enc : TypeId × Value → H} {W : World} {sp : Nat → Bool} {held : Bool} {fuel : Nat} {cs : List Value} {x : DataW H × List MemPlace} (h : DataW.trod enc Try.prog W 0 sp held fuel 51 cs = some x) :
    ∃ E : Edg, cs = ecells E ∧ Rdr W 4 E.v E.ps.length (pcells E.ps) ∧ PSz E.ps ∧ (E.f.size ≤ maxLen ∧ E.t.size ≤ maxLen ∧ E.l.size ≤ maxLen) ∧ (∀ n, (∀ m ∈ x.1.weights Try.prog 51, m ≤ n) → E.ps.length * 48 ≤ n) := by
  obtain ⟨ys, n, -, hxx, hl, hyz, hf⟩ := DataW.trod_struct Try.underlying51 h
  rw [show Try.prog.cellsOf 51 = 5 from by kernel_rfl] at hl
  obtain ⟨c0, c1, c2, c3, c4, rfl⟩ : ∃ c0 c1 c2 c3 c4, cs = [c0, c1, c2, c3, c4] := by
    match cs, hl with
    | [a, b, c, d, e], _ => exact ⟨a, b, c, d, e, rfl⟩
  have h0 : DataW.trod enc Try.prog W 0 sp held n 9 (([c0, c1, c2, c3, c4].drop 0).take (Try.prog.cellsOf 9)) = ys[0]? := hf 0 _ rfl
  have h1 : DataW.trod enc Try.prog W 0 sp held n 9 (([c0, c1, c2, c3, c4].drop 1).take (Try.prog.cellsOf 9)) = ys[1]? := hf 1 _ rfl
  have h2 : DataW.trod enc Try.prog W 0 sp held n 9 (([c0, c1, c2, c3, c4].drop 2).take (Try.prog.cellsOf 9)) = ys[2]? := hf 2 _ rfl
  have h3 : DataW.trod enc Try.prog W 0 sp held n 3 (([c0, c1, c2, c3, c4].drop 3).take (Try.prog.cellsOf 3)) = ys[3]? := hf 3 _ rfl
  have h4 : DataW.trod enc Try.prog W 0 sp held n 49 (([c0, c1, c2, c3, c4].drop 4).take (Try.prog.cellsOf 49)) = ys[4]? := hf 4 _ rfl
  rw [show Try.prog.cellsOf 9 = 1 from by kernel_rfl] at h0 h1 h2
  rw [show Try.prog.cellsOf 3 = 1 from by kernel_rfl] at h3
  rw [show Try.prog.cellsOf 49 = 1 from by kernel_rfl] at h4
  simp only [List.drop_zero, List.drop_succ_cons, List.take_succ_cons, List.take_zero] at h0 h1 h2 h3 h4
  have hz : ys.length = 5 := hyz
  obtain ⟨y0, y1, y2, y3, y4, rfl⟩ : ∃ y0 y1 y2 y3 y4, ys = [y0, y1, y2, y3, y4] := by
    match ys, hz with
    | [a, b, c, d, e], _ => exact ⟨a, b, c, d, e, rfl⟩
  obtain ⟨s0, g0, -, z0⟩ := DataW.trod_string Try.underlying9 h0
  obtain ⟨s1, g1, -, z1⟩ := DataW.trod_string Try.underlying9 h1
  obtain ⟨s2, g2, -, z2⟩ := DataW.trod_string Try.underlying9 h2
  obtain ⟨k, g3, -, -⟩ := DataW.trod_int Try.underlying3 h3
  obtain ⟨l, hr, hk, hw⟩ := open_props h4
  cases g0; cases g1; cases g2; cases g3
  refine ⟨⟨s0, s1, s2, k, c4, l⟩, rfl, hr, hk, ⟨z0, z1, z2⟩, fun N hN => hw N (fun q hq => hN q ?_)⟩
  subst hxx
  simp only [DataW.weights, Try.underlying51, List.map_cons, List.map_nil, DataW.weightsEach, List.mem_append]
  exact .inr (.inr (.inr (.inr (.inl hq))))
end Go.Proofs.Ythhmmjpgefinmaa
