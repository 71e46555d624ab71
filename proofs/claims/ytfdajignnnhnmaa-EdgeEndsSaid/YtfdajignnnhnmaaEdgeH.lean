/- edges: bytes that are gone through: the program's reader -/
import Derived.Test.YtfdajignnnhnmaaEdgeG
import Derived.Laws.OwnMore
namespace Go.Proofs.Ytfdajignnnhnmaa
set_option linter.unusedVariables false
set_option linter.unusedSimpArgs false
open Go.RowKit Go.Shelf
attribute [local go_sem] Oper.semAt_some

/-- whether they ended too early; what is left -/
abbrev St := Bool × List UInt8
def takeP (n : Nat) (s : St) : List UInt8 × St := if s.1 = true ∨ s.2.length < n then (List.replicate n 0, (true, s.2)) else (s.2.take n, (false, s.2.drop n))
theorem takeP_len (n : Nat) (s : St) : (takeP n s).1.length = n := by
  unfold takeP; split
  · simp
  · rename_i h; simp only [not_or, Nat.not_lt] at h; rw [List.length_take]; omega
theorem takeP_rest (n : Nat) (s : St) : (takeP n s).2.2.length ≤ s.2.length := by
  unfold takeP; split
  · simp
  · simp
/-- the two boxes hold the state -/
def Rs (W : World) (bb bd : Nat) (s : St) : Prop :=
  bb ≠ bd ∧ ∃ p c, Boxed W bb 22 (.slice p s.2.length c) ∧ Boxed W bd 4 (.bool s.1) ∧ Rdr W 1 (.slice p s.2.length c) s.2.length (bys s.2) ∧ s.2.length ≤ c ∧ c ≤ 9223372036854775807 ∧ (0 < s.2.length → ∀ g, (Value.slice p s.2.length c).ownBlock = some g → g < bb ∧ g < bd)
theorem Rdr.frz {S : Nat → Prop} {W W' : World} {size n : Nat} {v : Value} {xs : List Value} (hr : Rdr W size v n xs) (h : Fr S W W') (hs : 0 < n → ∀ g, v.ownBlock = some g → ¬ S g) : Rdr W' size v n xs := by
  rcases Nat.eq_zero_or_pos n with h0 | h0
  · obtain ⟨h1, p, c, h2, -⟩ := hr
    exact ⟨h1, p, c, h2, fun h3 => by omega⟩
  · exact hr.fr h (hs h0)
theorem Rs.g {W W' : World} {bb bd : Nat} {s : St} (h : Rs W bb bd s) (hg : G W W') : Rs W' bb bd s := by
  obtain ⟨hne, p, c, b1, b2, b3, b4, b5, b6⟩ := h
  exact ⟨hne, p, c, hg.boxed b1, hg.boxed b2, b3.g hg, b4, b5, b6⟩
theorem zeros_bys (n : Nat) : (madeCells #[Value.int .u8 0] n).toList = bys (List.replicate n 0) := by
  rw [toList_madeCells_one]; simp [bys]
theorem bys_take (l : List UInt8) (n : Nat) : bys (l.take n) = (bys l).take n := by simp [bys, List.map_take]
theorem bys_drop (l : List UInt8) (n : Nat) : bys (l.drop n) = (bys l).drop n := by simp [bys, List.map_drop]
theorem rdr_made (w : World) (n : Nat) : Rdr (w.alloc (.cells (madeCells #[Value.int .u8 0] n) 5)) 1 (.slice (some ⟨w.heap.size, 0, none⟩) n n) n (bys (List.replicate n 0)) := by
  have h := rdr_alloc w (bys (List.replicate n 0)) 5 (0, 0) 1 n n (by simp [bys])
  have e : (bys (List.replicate n 0)).toArray = madeCells #[Value.int .u8 0] n := by rw [← zeros_bys]
  rwa [e] at h

theorem take_fin {bb bd n m c : Nat} {l : List UInt8} {p q : Option Addr} {w : World} (hne : bb ≠ bd) (B1 : Boxed w bb 22 (.slice p m c)) (B2 : Boxed w bd 4 (.bool false)) (hm : m = l.length) (hle : n ≤ m) (hmc : m ≤ c) (hc : c ≤ 9223372036854775807)
    (h1 : Rdr w 1 (.slice p n c) n (bys (l.take n))) (h2 : Rdr w 1 (.slice q (m - n) (c - n)) (m - n) (bys (l.drop n))) (h3 : 0 < m → ∀ g, (Value.slice p m c).ownBlock = some g → g < bb ∧ g < bd) (h4 : 0 < m - n → ∀ g, (Value.slice q (m - n) (c - n)).ownBlock = some g → g < bb ∧ g < bd) :
    Rdr ((w.setCell ⟨bd, 0, none⟩ (.bool false)).setCell ⟨bb, 0, none⟩ (.slice q (m - n) (c - n))) 1 (.slice p n c) n (bys (l.take n)) ∧
      Rs ((w.setCell ⟨bd, 0, none⟩ (.bool false)).setCell ⟨bb, 0, none⟩ (.slice q (m - n) (c - n))) bb bd (false, l.drop n) ∧ Fr (fun k => k = bb ∨ k = bd) w ((w.setCell ⟨bd, 0, none⟩ (.bool false)).setCell ⟨bb, 0, none⟩ (.slice q (m - n) (c - n))) := by
  have hf1 : Fr (fun k => k = bb ∨ k = bd) w (w.setCell ⟨bd, 0, none⟩ (.bool false)) := (Fr.refl (fun k => k = bb ∨ k = bd) w).setCell (p := ⟨bd, 0, none⟩) (.inl (.inr rfl)) _
  have hf2 : Fr (fun k => k = bb ∨ k = bd) w ((w.setCell ⟨bd, 0, none⟩ (.bool false)).setCell ⟨bb, 0, none⟩ (.slice q (m - n) (c - n))) := hf1.setCell (p := ⟨bb, 0, none⟩) (.inl (.inl rfl)) _
  have hd1 : Fr (fun k => k = bd) w (w.setCell ⟨bd, 0, none⟩ (.bool false)) := (Fr.refl (fun k => k = bd) w).setCell (p := ⟨bd, 0, none⟩) (.inl rfl) _
  have hd2 : Fr (fun k => k = bb) (w.setCell ⟨bd, 0, none⟩ (.bool false)) ((w.setCell ⟨bd, 0, none⟩ (.bool false)).setCell ⟨bb, 0, none⟩ (.slice q (m - n) (c - n))) := (Fr.refl (fun k => k = bb) _).setCell (p := ⟨bb, 0, none⟩) (.inl rfl) _
  have hown : 0 < n → ∀ g, (Value.slice p n c).ownBlock = some g → g < bb ∧ g < bd := fun h0 g hg => h3 (by omega) g (by cases p with | none => cases hg | some a => exact hg)
  refine ⟨h1.frz hf2 (fun h0 g hg e => by rcases e with e | e; exact Nat.ne_of_lt (hown h0 g hg).1 e; exact Nat.ne_of_lt (hown h0 g hg).2 e), ?_, hf2⟩
  have hdl : (l.drop n).length = m - n := by rw [List.length_drop, hm]
  refine ⟨hne, q, c - n, ?_, ?_, ?_, by rw [hdl]; omega, by omega, by rw [hdl]; exact h4⟩
  · rw [hdl]; exact (hd1.boxed B1 (by simpa using hne)).set _
  · exact hd2.boxed (B2.set _) (by simpa using Ne.symm hne)
  · rw [hdl]; exact h2.frz hf2 (fun h0 g hg e => by rcases e with e | e; exact Nat.ne_of_lt (h4 h0 g hg).1 e; exact Nat.ne_of_lt (h4 h0 g hg).2 e)
theorem take_any (n : Nat) (bb bd : Nat) (s : St) (w : World) (h : Rs w bb bd s) (hn : n ≤ 255) :
    Calls Try.prog 71 #[.int .i64 n, .pointer (some ⟨bd, 0, none⟩), .pointer (some ⟨bb, 0, none⟩)] w fun e w' => ∃ u, e = .returned u ∧ Rdr w' 1 u n (bys (takeP n s).1) ∧ Rs w' bb bd (takeP n s).2 ∧ Fr (fun k => k = bb ∨ k = bd) w w' := by
  obtain ⟨i0, hi, hz0, hz1, hz2⟩ := info_parts infoB
  obtain ⟨bad, l⟩ := s
  obtain ⟨hne, p, c, b1, b2, b3, b4, b5, b6⟩ := h
  simp only at b1 b2 b3 b4 b5 b6
  obtain ⟨m, hm⟩ : ∃ m, m = l.length := ⟨_, rfl⟩
  rw [← hm] at b1 b3 b4 b6
  have c1 := b1.cell
  have c2 := b2.cell
  have f1 := b1.frozen
  have f2 := b2.frozen
  have B1 := Lib.hid b1
  have B2 := Lib.hid b2
  have B3 := Lib.hid b3
  have B6 := Lib.hid b6
  have l1 := b1.lt
  have l2 := b2.lt
  have HM := Lib.hid hm
  clear b1 b2 b3 b6 hm
  by_cases hb : bad = true ∨ m < n
  · have HT := Lib.hid (show takeP n (bad, l) = (List.replicate n 0, (true, l)) by rw [takeP, if_pos (by rw [← HM.out]; exact hb)])
    rw [HT.out]
    have fin : ∃ u, Value.slice (some ⟨w.heap.size, 0, none⟩) n n = u ∧ Rdr ((w.setCell ⟨bd, 0, none⟩ (.bool true)).alloc (.cells (madeCells #[Value.int .u8 0] n) 5)) 1 u n (bys (List.replicate n 0)) ∧ Rs ((w.setCell ⟨bd, 0, none⟩ (.bool true)).alloc (.cells (madeCells #[Value.int .u8 0] n) 5)) bb bd (true, l) ∧ Fr (fun k => k = bb ∨ k = bd) w ((w.setCell ⟨bd, 0, none⟩ (.bool true)).alloc (.cells (madeCells #[Value.int .u8 0] n) 5)) := by
      have hf : Fr (fun k => k = bd) w (w.setCell ⟨bd, 0, none⟩ (.bool true)) := (Fr.refl (fun k => k = bd) w).setCell (p := ⟨bd, 0, none⟩) (.inl rfl) _
      have hsz : (w.setCell ⟨bd, 0, none⟩ (.bool true)).heap.size = w.heap.size := by simp [World.setCell]
      refine ⟨_, rfl, by have := rdr_made (w.setCell ⟨bd, 0, none⟩ (.bool true)) n; rwa [hsz] at this, ?_, ((hf.mono (fun k h => .inr h)).alloc _)⟩
      refine Rs.g (W := w.setCell ⟨bd, 0, none⟩ (.bool true)) ?_ ((G.refl _).alloc _)
      refine ⟨hne, p, c, ?_, B2.out.set _, ?_, by rw [← HM.out]; exact b4, b5, by rw [← HM.out]; exact B6.out⟩
      · rw [← HM.out]; exact hf.boxed B1.out (by simpa using hne)
      · rw [← HM.out]; exact B3.out.frz hf (fun h0 g hg e => Nat.ne_of_lt (B6.out h0 g hg).2 e)
    have FIN := Lib.hid fin
    have hszz : (w.setCell ⟨bd, 0, none⟩ (.bool true)).heap.size = w.heap.size := by simp [World.setCell]
    clear fin
    cases bad
    · have hlt : m < n := by simpa using hb
      have hltI : (m : Int) < (n : Int) := by omega
      go_enter Try.func71, Try.ntmps71
      go_wp2_with (at_make; refine wpList_make_row _ rfl _ _ _ rfl 5 i0 (.int .u8 0) Try.underlying22 hi hz0 hz1 rfl .i64 .i64 n rfl rfl (by rw [hz2]; omega) (by omega) ?_)
      go_ret
      obtain ⟨u, hu, q1, q3, q4⟩ := FIN.out
      exact ⟨u, by rw [← hu, ← hszz]; rfl, q1, q3, q4⟩
    · go_enter Try.func71, Try.ntmps71
      go_wp2_with (at_make; refine wpList_make_row _ rfl _ _ _ rfl 5 i0 (.int .u8 0) Try.underlying22 hi hz0 hz1 rfl .i64 .i64 n rfl rfl (by rw [hz2]; omega) (by omega) ?_)
      go_ret
      obtain ⟨u, hu, q1, q3, q4⟩ := FIN.out
      exact ⟨u, by rw [← hu, ← hszz]; rfl, q1, q3, q4⟩
  · have hb1 : bad = false := by cases bad <;> simp_all
    subst hb1
    have hle : n ≤ m := by simpa using hb
    have HT := Lib.hid (show takeP n (false, l) = (l.take n, (false, l.drop n)) by rw [takeP, if_neg (by rw [← HM.out]; simpa using hb)])
    have hleI : (n : Int) ≤ (m : Int) := by omega
    have hltI : ¬ (m : Int) < (n : Int) := by omega
    have hncI : (n : Int) ≤ (c : Int) := by omega
    have hmcI : (m : Int) ≤ (c : Int) := by omega
    have hn0 : (0 : Int) ≤ (n : Int) := by omega
    rw [HT.out]
    rcases Nat.eq_zero_or_pos m with hm0 | hm0
    · subst hm0
      obtain rfl : n = 0 := by omega
      have hl : l = [] := List.eq_nil_of_length_eq_zero HM.out.symm
      subst hl
      have F := fun q (hq : q = p ∨ ∃ a, p = some a ∧ q = some (a.add 0)) => take_fin (q := q) hne B1.out B2.out HM.out (Nat.le_refl 0) (Nat.zero_le c) b5 (Rdr.nil w 1 p c) (Rdr.nil w 1 q (c - 0)) B6.out (fun h0 => by omega)
      have F := Lib.hid F
      cases p with
      | none =>
        go_enter Try.func71, Try.ntmps71
        go_wp2_with fail
        go_ret
        exact ⟨_, rfl, F.out none (.inl rfl)⟩
      | some a =>
        go_enter Try.func71, Try.ntmps71
        go_wp2_with fail
        go_ret
        exact ⟨_, rfl, F.out (some a) (.inl rfl)⟩
    · obtain ⟨b, o, rfl, hcell⟩ := B3.out.one hm0
      have r1 : Rdr w 1 (.slice (some ⟨b, o, none⟩) n c) n (bys (l.take n)) := ⟨by rw [bys_len, List.length_take, ← HM.out]; omega, _, _, rfl, fun _ => ⟨b, o, rfl, fun j u hu => hcell j u (by rw [bys_take] at hu; rw [List.getElem?_take] at hu; split at hu; exact hu; cases hu)⟩⟩
      have r2 : ∀ o2, (n < m → o2 = o + n) → Rdr w 1 (.slice (some ⟨b, o2, none⟩) (m - n) (c - n)) (m - n) (bys (l.drop n)) := fun o2 ho => ⟨by rw [bys_len, List.length_drop, ← HM.out]; omega, _, _, rfl, fun h => ⟨b, o2, rfl, fun j u hu => by
        rw [ho (by omega), Nat.add_assoc]; exact hcell _ u (by rw [bys_drop, List.getElem?_drop] at hu; exact hu)⟩⟩
      have F := fun o2 (ho : n < m → o2 = o + n) => take_fin (q := some ⟨b, o2, none⟩) hne B1.out B2.out HM.out hle b4 b5 r1 (r2 o2 ho) B6.out (fun h0 g hg => B6.out hm0 g hg)
      have F := Lib.hid F
      clear r1 r2 hcell
      go_enter Try.func71, Try.ntmps71
      go_wp2_with fail
      · rename_i h
        subst h
        have F2 := F.out o (fun hh => by omega)
        rw [Nat.sub_self] at F2
        go_ret
        exact ⟨_, rfl, F2⟩
      · go_ret
        exact ⟨_, rfl, F.out (o + n) (fun _ => rfl)⟩
/-- was all there, and is nothing left? -/
def doneP (s : St) : Bool := !s.1 && decide (s.2.length = 0)
theorem done_any (bb bd : Nat) (s : St) (w : World) (h : Rs w bb bd s) :
    Calls Try.prog 72 #[.pointer (some ⟨bd, 0, none⟩), .pointer (some ⟨bb, 0, none⟩)] w fun e w' => e = .returned (.bool (doneP s)) ∧ w = w' := by
  obtain ⟨bad, l⟩ := s
  obtain ⟨hne, p, c, b1, b2, -, b4, b5, -⟩ := h
  simp only at b1 b2 b4
  have c1 := b1.cell
  have c2 := b2.cell
  obtain ⟨m, hm⟩ : ∃ m, m = l.length := ⟨_, rfl⟩
  rw [← hm] at c1
  clear b1 b2 b4 b5
  cases bad
  · by_cases h0 : m = 0
    · have H := Lib.hid (show doneP (false, l) = true by simp only [doneP, ← hm, h0]; rfl)
      have h0I : ((m : Int) == 0) = true := by simp; omega
      clear hm
      go_enter Try.func72, Try.ntmps72
      go_wp2_with fail
      go_ret
      exact ⟨by rw [H.out]; rfl, rfl⟩
    · have H := Lib.hid (show doneP (false, l) = false by simp only [doneP, ← hm]; simpa using h0)
      have h0I : ((m : Int) == 0) = false := by simp; omega
      clear hm
      go_enter Try.func72, Try.ntmps72
      go_wp2_with fail
      go_ret
      exact ⟨by rw [H.out]; rfl, rfl⟩
  · clear hm
    go_enter Try.func72, Try.ntmps72
    go_wp2_with fail
    go_ret
    exact ⟨rfl, rfl⟩
end Go.Proofs.Ytfdajignnnhnmaa
