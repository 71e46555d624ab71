/- laid together: SortLe SortKe SortLw SortOp -/
import Derived.Test.YthhmmjpgefinmaaSortOv
import Derived.Test.YthhmmjpgefinmaaSortRf
import Derived.Test.YthhmmjpgefinmaaEdgeN
set_option maxRecDepth 10000
/- rows of edges that are lent -/
namespace Go.Proofs.Ythhmmjpgefinmaa
set_option linter.unusedVariables false
set_option linter.unusedSimpArgs false
open Go.RowKit Go.Shelf
attribute [local go_sem] Oper.semAt_some

def medge (k i : Int) : Edg := ⟨⟨#[]⟩, ⟨#[]⟩, ⟨#[]⟩, mk k i, .slice none 0 0, []⟩
def marksE (k : Int) (n : Nat) : List Edg := (List.range n).map fun i => medge k ((i : Nat) : Int)
theorem marksE_succ (k : Int) (n : Nat) : marksE k (n + 1) = marksE k n ++ [medge k (n : Int)] := by simp [marksE, List.range_succ]
theorem marksE_len (k : Int) (n : Nat) : (marksE k n).length = n := by simp [marksE]
theorem marksE_get (k : Int) (n i : Nat) (h : i < n) : (marksE k n)[i]? = some (medge k (i : Int)) := by simp [marksE, h]
/-- M is lent of L, edge by edge -/
structure LentL (W : World) (base : Nat) (L M : List Edg) : Prop where
  len : M.length = L.length
  each : ∀ i, i < L.length → ∃ u b, base ≤ b ∧ eat M i = lentE (eat L i) u ∧ LentP W b u (eat L i)
theorem LentL.fr {S : Nat → Prop} {W W' : World} {base : Nat} {L M : List Edg} (h : LentL W base L M) (hf : Fr S W W') (hs : ∀ g, S g → g < base ∨ W.heap.size ≤ g) : LentL W' base L M :=
  ⟨h.len, fun i hi => by
    obtain ⟨u, b, hb, h1, h2⟩ := h.each i hi
    exact ⟨u, b, hb, h1, h2.fr hf (fun g hg hS => by have := Lent.lt h2 g hg; have := hs g hS; omega)⟩⟩
theorem LentL.g {W W' : World} {base : Nat} {L M : List Edg} (h : LentL W base L M) (hg : G W W') : LentL W' base L M := h.fr (hg.fr (fun _ => False)) (fun _ h => h.elim)
/-- a row of edges that is lent: marks behind its end -/
def LentEs (W : World) (base : Nat) (v : Value) (L : List Edg) : Prop :=
  ∃ g c M, v = .slice (some ⟨g, 0, none⟩) L.length c ∧ W.ownsRow base 51 5 (.slice (some ⟨g, 0, none⟩) (L.length + 12) c) (L.length + 12) (ecs (M ++ marksE 1 12)) ∧ LentL W base L M
theorem lent_apart {W : World} {base base' q n : Nat} {u v : Value} {E : Edg} {xs : List Value} (h : LentP W base u E) (hr : W.ownsRow base' 51 5 v n xs) (hg : v.ownBlock = some q) : ¬ u.ownBlock = some q := by
  obtain ⟨g, c, rfl, ho⟩ := h
  intro hk
  obtain ⟨c1, h1⟩ := own_type ho (show (Value.slice (some ⟨g, 0, none⟩) (E.ps.length + 12) c).ownBlock = some q from hk)
  obtain ⟨c2, h2⟩ := own_type hr hg
  rw [h1] at h2
  simp at h2
theorem eat_appL {M : List Edg} {x : Edg} {i : Nat} (h : i < M.length) : eat (M ++ [x]) i = eat M i := by
  apply eat_of; rw [List.getElem?_append_left h]; exact eat_get h
theorem eat_appR {M : List Edg} {x : Edg} : eat (M ++ [x]) M.length = x := by
  apply eat_of; rw [List.getElem?_append_right (Nat.le_refl _), Nat.sub_self]; rfl
end Go.Proofs.Ythhmmjpgefinmaa

/- rows of edges that are kept -/
namespace Go.Proofs.Ythhmmjpgefinmaa
set_option linter.unusedVariables false
set_option linter.unusedSimpArgs false
open Go.RowKit Go.Shelf
attribute [local go_sem] Oper.semAt_some

theorem LentEs.g {W W' : World} {base : Nat} {v : Value} {L : List Edg} (h : LentEs W base v L) (hg : G W W') : LentEs W' base v L := by
  obtain ⟨g, c, M, h1, h2, h3⟩ := h
  exact ⟨g, c, M, h1, hg.ownsRow h2, h3.g hg⟩
theorem medge_at (W : World) (k i : Int) : EdgAt W (medge k i) := ⟨Rdr.nil _ _ _ _, by show (0 : Nat) ≤ _; omega, (fun p hp => by cases hp), Nat.zero_le _, Nat.zero_le _, Nat.zero_le _⟩
end Go.Proofs.Ythhmmjpgefinmaa

/- EdgeSorts: the walk -/
namespace Go.Proofs.Ythhmmjpgefinmaa
set_option linter.unusedVariables false
set_option linter.unusedSimpArgs false
open Go.RowKit Go.Shelf
attribute [local go_sem] Oper.semAt_some

theorem lent_rdr {W : World} {base : Nat} {v : Value} {L : List Edg} (h : LentEs W base v L) (hE : ∀ E ∈ L, EdgAt W E) : ∃ M, RdrE W v M ∧ M.length = L.length ∧ M.map outE = L.map outE := by
  obtain ⟨g, c, M, rfl, hown, hL⟩ := h
  have ht := rdr_of_owns (ownsRow_take (n := L.length) (m := 12) hown ⟨g, rfl⟩)
  rw [ecs_take, List.take_append_of_le_length (by rw [hL.len]; exact Nat.le_refl _), List.take_of_length_le (by rw [hL.len]; exact Nat.le_refl _)] at ht
  refine ⟨M, ⟨by rw [hL.len]; exact ht, fun F hF => ?_⟩, hL.len, ?_⟩
  · obtain ⟨j, hj, he⟩ := List.getElem_of_mem hF
    have hjL : j < L.length := by rw [← hL.len]; exact hj
    obtain ⟨u, b, hb, h1, h2⟩ := hL.each j hjL
    have h3 : eat M j = F := eat_of (by rw [List.getElem?_eq_getElem hj, he])
    rw [← h3, h1]
    exact h2.at (hE _ (List.mem_of_getElem? (eat_get hjL)))
  · apply List.ext_getElem?
    intro j
    rw [List.getElem?_map, List.getElem?_map]
    by_cases hj : j < L.length
    · obtain ⟨u, b, hb, h1, h2⟩ := hL.each j hj
      rw [eat_get hj, eat_get (by rw [hL.len]; exact hj), h1]; rfl
    · rw [List.getElem?_eq_none (l := M) (by rw [hL.len]; omega), List.getElem?_eq_none (l := L) (by omega)]
theorem out_ps {A B : List Edg} (h : A.map outE = B.map outE) (hB : ∀ E ∈ B, E.ps.length ≤ 1000000) : ∀ E ∈ A, E.ps.length ≤ 1000000 := fun E hE => by
  have : outE E ∈ B.map outE := by rw [← h]; exact List.mem_map_of_mem hE
  obtain ⟨F, hF, he⟩ := List.mem_map.1 this
  have h2 : F.ps = E.ps := congrArg (fun o : Out => o.2.2.2.2) he
  rw [← h2]; exact hB F hF
theorem same_sorted {n : Nat} {M N L' R l : List Edg} (hM : N.map outE = M.map outE) (hMl : M.map outE = l.map outE) (hst : Stab 0 n N L') (hs : Srt 0 n L') (hl : L'.length = n) (hR : Srt 0 n R) (hRl : R.length = n) (hf : ∀ k, (R.map outE).filter (isO k) = (l.map outE).filter (isO k)) : L'.map outE = R.map outE := by
  refine osrt_uniq _ _ (osrt_of hl hs) (osrt_of hRl hR) (fun k => ?_)
  rw [hf k, filter_out, hst.filt, ← filter_out, hM, hMl]
theorem LentEs.fr2 {W W5 W6 : World} {base : Nat} {v : Value} {L : List Edg} (h : LentEs W base v L) (hg : G W W5) (hf : Fr (fun q => W.heap.size ≤ q) W5 W6) : LentEs W6 base v L := by
  obtain ⟨g, c, M, h1, h2, h3⟩ := h
  refine ⟨g, c, M, h1, hf.ownsRow (hg.ownsRow h2) (fun q hq e => by have := (h2.lt q hq).2; omega), h3.len, fun i hi => ?_⟩
  obtain ⟨u, b, hb, h4, h5⟩ := h3.each i hi
  exact ⟨u, b, hb, h4, (h5.g hg).fr hf (fun q hq e => by have := (Lent.lt h5 q hq).2; omega)⟩
end Go.Proofs.Ythhmmjpgefinmaa

/- rows of edges that came in -/
namespace Go.Proofs.Ythhmmjpgefinmaa
set_option linter.unusedVariables false
set_option linter.unusedSimpArgs false
open Go.RowKit Go.Shelf Go.ChangeShapes Go.WideShapes Go.Deep

theorem open_edges {H : Type} {enc : TypeId × Value → H} {W : World} {sp : Nat → Bool} {held : Bool} {fuel : Nat} {v : Value} {x : DataW H × List MemPlace} (h : DataW.trod enc Try.prog W 0 sp held fuel 40 [v] = some x) :
    ∃ l : List Edg, Rdr W 5 v l.length (ecs l) ∧ (∀ E ∈ l, Rdr W 4 E.v E.ps.length (pcells E.ps) ∧ PSz E.ps ∧ (E.f.size ≤ maxLen ∧ E.t.size ≤ maxLen ∧ E.l.size ≤ maxLen)) ∧ (∀ n, (∀ m ∈ x.1.weights Try.prog 40, m ≤ n) → l.length * 80 ≤ n ∧ ∀ E ∈ l, E.ps.length * 48 ≤ n) := by
  rcases Deep.open_slice Try.underlying40 h with ⟨h1, -⟩ | ⟨a, len, cap, m, n, D, Pl, h1, -, hl, hm, hz, hxx, hx⟩
  · cases h1
    exact ⟨[], Rdr.nil _ _ _ _, by simp, by simp⟩
  · cases h1
    have hle : len ≤ m := by rw [hz]; split <;> omega
    have hc3 : Try.prog.cellsOf 51 = 5 := by kernel_rfl
    rw [hc3] at hx
    have each : ∀ i, ∃ E : Edg, i < len → (Rdr W 4 E.v E.ps.length (pcells E.ps) ∧ PSz E.ps ∧ (E.f.size ≤ maxLen ∧ E.t.size ≤ maxLen ∧ E.l.size ≤ maxLen) ∧ (∀ n, (∀ m ∈ (D i).weights Try.prog 51, m ≤ n) → E.ps.length * 48 ≤ n)) ∧
        W.cell? (a.add (i * 5)) = some (.string E.f) ∧ W.cell? (a.add (i * 5 + 1)) = some (.string E.t) ∧ W.cell? (a.add (i * 5 + 2)) = some (.string E.l) ∧ W.cell? (a.add (i * 5 + 3)) = some (.int .i64 E.tm) ∧ W.cell? (a.add (i * 5 + 4)) = some E.v := by
      intro i
      by_cases hi : i < len
      · obtain ⟨cs', hcs, ht⟩ := hx i (by omega)
        obtain ⟨E, rfl, e1, e2, e3, e4⟩ := open_edge ht
        obtain ⟨-, -, hat⟩ := World.cells?_some hcs
        have a0 := hat 0 (by omega)
        have a1 := hat 1 (by omega)
        have a2 := hat 2 (by omega)
        have a3 := hat 3 (by omega)
        have a4 := hat 4 (by omega)
        rw [Deep.add_add] at a0 a1 a2 a3 a4
        exact ⟨E, fun _ => ⟨⟨e1, e2, e3, e4⟩, a0, a1, a2, a3, a4⟩⟩
      · exact ⟨zeroE, fun h => absurd h hi⟩
    obtain ⟨Lf, hLf⟩ := Classical.axiomOfChoice each
    have e1 : ((List.range len).map Lf).length = len := by simp
    refine ⟨(List.range len).map Lf, ?_, ?_, fun N hN => ⟨?_, ?_⟩⟩
    · refine ⟨by rw [ecs_len], some a, cap, by rw [e1], fun h0 => ?_⟩
      rw [e1] at h0
      have ha := spot_none (hLf 0 h0).2.1
      rw [show a.add (0 * 5) = a from by simp [Addr.add]] at ha
      refine ⟨a.block, a.off, by rw [← ha], fun j u hu => ?_⟩
      have hj : j < len * 5 := by
        have := (List.getElem?_eq_some_iff.1 hu).1
        rwa [ecs_len, e1] at this
      have hi : j / 5 < len := by omega
      obtain ⟨-, b0, b1, b2, b3, b4⟩ := hLf (j / 5) hi
      obtain ⟨d0, d1, d2, d3, d4⟩ := ecs_get (l := (List.range len).map Lf) (k := j / 5) (E := Lf (j / 5)) (by simp [hi])
      rw [ha, addr_add] at b0 b1 b2 b3 b4
      rcases (by omega : j = j / 5 * 5 ∨ j = j / 5 * 5 + 1 ∨ j = j / 5 * 5 + 2 ∨ j = j / 5 * 5 + 3 ∨ j = j / 5 * 5 + 4) with e | e | e | e | e
      · rw [e] at hu ⊢; rw [d0] at hu; cases hu; exact b0
      · rw [e] at hu ⊢; rw [d1] at hu; cases hu; exact b1
      · rw [e] at hu ⊢; rw [d2] at hu; cases hu; exact b2
      · rw [e] at hu ⊢; rw [d3] at hu; cases hu; exact b3
      · rw [e] at hu ⊢; rw [d4] at hu; cases hu; exact b4
    · intro u hu
      simp at hu
      obtain ⟨i, hi, rfl⟩ := hu
      obtain ⟨⟨q1, q2, q3, -⟩, -⟩ := hLf i hi
      exact ⟨q1, q2, q3⟩
    · subst hxx
      have hw := hN (((((List.range len).map D).length) + ((List.range (m - len)).map fun j => D (len + j)).length) * Try.prog.bytesOf 51) (by simp [DataW.weights, Try.underlying40])
      rw [show Try.prog.bytesOf 51 = 80 from by kernel_rfl] at hw
      refine Nat.le_trans (Nat.mul_le_mul_right _ ?_) hw
      simp
    · intro u hu
      simp at hu
      obtain ⟨i, hi, rfl⟩ := hu
      obtain ⟨⟨-, -, -, q4⟩, -⟩ := hLf i hi
      refine q4 N (fun q hq => hN q ?_)
      subst hxx
      simp only [DataW.weights, Try.underlying40, List.mem_cons]
      refine .inr ?_
      exact List.mem_append.2 (.inl (weightsAll_mem (d := D i) (by simp; exact ⟨i, hi, rfl⟩) hq))
end Go.Proofs.Ythhmmjpgefinmaa
