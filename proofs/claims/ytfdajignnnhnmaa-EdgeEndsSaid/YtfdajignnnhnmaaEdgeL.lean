/- edges: bytes that are gone through: the document's reader -/
import Derived.Test.YtfdajignnnhnmaaEdgeJ
namespace Go.Proofs.Ytfdajignnnhnmaa
set_option linter.unusedVariables false
set_option linter.unusedSimpArgs false
open Go.RowKit Go.Shelf
attribute [local go_sem] Oper.semAt_some

/-- block R holds the reader's state -/
def Rq (W : World) (R : Nat) (s : St) : Prop :=
  ∃ p c, W.heap[R]? = some (.cells #[.slice p s.2.length c, .bool s.1] 68 (0, 0)) ∧ Rdr W 1 (.slice p s.2.length c) s.2.length (bys s.2) ∧ s.2.length ≤ c ∧ c ≤ 9223372036854775807 ∧ (0 < s.2.length → ∀ g, (Value.slice p s.2.length c).ownBlock = some g → g < R)
theorem Rq.fr {W W' : World} {R : Nat} {s : St} {S : Nat → Prop} (h : Rq W R s) (hf : Fr S W W') (hS : ∀ g, S g → R < g) : Rq W' R s := by
  obtain ⟨p, c, b1, b3, b4, b5, b6⟩ := h
  exact ⟨p, c, (hf.block R (heap_lt b1) (fun e => by have := hS _ e; omega)).trans b1, b3.frz hf (fun h0 g hg e => by have := b6 h0 g hg; have := hS _ e; omega), b4, b5, b6⟩
theorem Rq.g {W W' : World} {R : Nat} {s : St} (h : Rq W R s) (hg : G W W') : Rq W' R s := h.fr (hg.fr (fun _ => False)) (fun _ h => h.elim)
theorem cells2 {W : World} {R : Nat} {ty : TypeId} {v0 v1 : Value} (h : W.heap[R]? = some (.cells #[v0, v1] ty (0, 0))) :
    W.cell? ⟨R, 0, none⟩ = some v0 ∧ W.cell? ⟨R, 1, none⟩ = some v1 ∧ W.frozen? ⟨R, 0, none⟩ = false ∧ W.frozen? ⟨R, 1, none⟩ = false := by
  unfold World.cell? World.frozen?; rw [h]; exact ⟨rfl, rfl, by simp, by simp⟩
theorem rtake_fin {R n m c : Nat} {l : List UInt8} {p q : Option Addr} {w : World} (B1 : w.heap[R]? = some (.cells #[.slice p m c, .bool false] 68 (0, 0))) (hm : m = l.length) (hle : n ≤ m) (hmc : m ≤ c) (hc : c ≤ 9223372036854775807)
    (h1 : Rdr w 1 (.slice p n c) n (bys (l.take n))) (h2 : Rdr w 1 (.slice q (m - n) (c - n)) (m - n) (bys (l.drop n))) (h3 : 0 < m → ∀ g, (Value.slice p m c).ownBlock = some g → g < R) (h4 : 0 < m - n → ∀ g, (Value.slice q (m - n) (c - n)).ownBlock = some g → g < R) :
    Rdr (w.setCell ⟨R, 0, none⟩ (.slice q (m - n) (c - n))) 1 (.slice p n c) n (bys (l.take n)) ∧
      Rq (w.setCell ⟨R, 0, none⟩ (.slice q (m - n) (c - n))) R (false, l.drop n) ∧ Fr (fun k => k = R) w (w.setCell ⟨R, 0, none⟩ (.slice q (m - n) (c - n))) ∧ (0 < n → ∀ g, (Value.slice p n c).ownBlock = some g → g < R ∨ w.heap.size ≤ g) := by
  have hf2 : Fr (fun k => k = R) w (w.setCell ⟨R, 0, none⟩ (.slice q (m - n) (c - n))) := (Fr.refl (fun k => k = R) w).setCell (p := ⟨R, 0, none⟩) (.inl rfl) _
  have hown : 0 < n → ∀ g, (Value.slice p n c).ownBlock = some g → g < R := fun h0 g hg => h3 (by omega) g (by cases p with | none => cases hg | some a => exact hg)
  have hdl : (l.drop n).length = m - n := by rw [List.length_drop, hm]
  refine ⟨h1.frz hf2 (fun h0 g hg e => Nat.ne_of_lt (hown h0 g hg) e), ?_, hf2, fun h0 g hg => .inl (hown h0 g hg)⟩
  refine ⟨q, c - n, ?_, ?_, by rw [hdl]; omega, by omega, by rw [hdl]; exact h4⟩
  · rw [hdl]; exact heap_setCell_at _ R 0 _ _ _ _ B1
  · rw [hdl]; exact h2.frz hf2 (fun h0 g hg e => Nat.ne_of_lt (h4 h0 g hg) e)
theorem rtake_any (n : Nat) (R : Nat) (s : St) (w : World) (h : Rq w R s) (hn : n ≤ 255) :
    Calls Try.prog 43 #[.pointer (some ⟨R, 0, none⟩), .int .i64 n] w fun e w' => ∃ u, e = .returned u ∧ Rdr w' 1 u n (bys (takeP n s).1) ∧ Rq w' R (takeP n s).2 ∧ Fr (fun k => k = R) w w' ∧ (0 < n → ∀ g, u.ownBlock = some g → g < R ∨ w.heap.size ≤ g) := by
  obtain ⟨i0, hi, hz0, hz1, hz2⟩ := info_parts infoB
  obtain ⟨bad, l⟩ := s
  obtain ⟨p, c, b1, b3, b4, b5, b6⟩ := h
  simp only at b1 b3 b4 b5 b6
  obtain ⟨m, hm⟩ : ∃ m, m = l.length := ⟨_, rfl⟩
  rw [← hm] at b1 b3 b4 b6
  obtain ⟨c1, c2, f1, f2⟩ := cells2 b1
  have B1 := Lib.hid b1
  have B3 := Lib.hid b3
  have B6 := Lib.hid b6
  have l1 := heap_lt b1
  have HM := Lib.hid hm
  clear b1 b3 b6 hm
  by_cases hb : bad = true ∨ m < n
  · have HT := Lib.hid (show takeP n (bad, l) = (List.replicate n 0, (true, l)) by rw [takeP, if_pos (by rw [← HM.out]; exact hb)])
    rw [HT.out]
    have fin : ∃ u, Value.slice (some ⟨w.heap.size, 0, none⟩) n n = u ∧ Rdr ((w.setCell ⟨R, 1, none⟩ (.bool true)).alloc (.cells (madeCells #[Value.int .u8 0] n) 5)) 1 u n (bys (List.replicate n 0)) ∧ Rq ((w.setCell ⟨R, 1, none⟩ (.bool true)).alloc (.cells (madeCells #[Value.int .u8 0] n) 5)) R (true, l) ∧ Fr (fun k => k = R) w ((w.setCell ⟨R, 1, none⟩ (.bool true)).alloc (.cells (madeCells #[Value.int .u8 0] n) 5)) ∧ (0 < n → ∀ g, u.ownBlock = some g → g < R ∨ w.heap.size ≤ g) := by
      have hf : Fr (fun k => k = R) w (w.setCell ⟨R, 1, none⟩ (.bool true)) := (Fr.refl (fun k => k = R) w).setCell (p := ⟨R, 1, none⟩) (.inl rfl) _
      have hsz : (w.setCell ⟨R, 1, none⟩ (.bool true)).heap.size = w.heap.size := by simp [World.setCell]
      refine ⟨_, rfl, by have := rdr_made (w.setCell ⟨R, 1, none⟩ (.bool true)) n; rwa [hsz] at this, ?_, hf.alloc _, fun _ g hg => .inr (by simp [Value.ownBlock] at hg; omega)⟩
      refine Rq.g (W := w.setCell ⟨R, 1, none⟩ (.bool true)) ?_ ((G.refl _).alloc _)
      refine ⟨p, c, ?_, ?_, by rw [← HM.out]; exact b4, b5, by rw [← HM.out]; exact B6.out⟩
      · rw [← HM.out]; exact heap_setCell_at _ R 1 _ _ _ _ B1.out
      · rw [← HM.out]; exact B3.out.frz hf (fun h0 g hg e => Nat.ne_of_lt (B6.out h0 g hg) e)
    have FIN := Lib.hid fin
    have hszz : (w.setCell ⟨R, 1, none⟩ (.bool true)).heap.size = w.heap.size := by simp [World.setCell]
    clear fin
    cases bad
    · have hlt : m < n := by simpa using hb
      have hltI : (m : Int) < (n : Int) := by omega
      go_enter Try.func43, Try.ntmps43
      go_wp2_with (at_make; refine wpList_make_row _ rfl _ _ _ rfl 5 i0 (.int .u8 0) Try.underlying22 hi hz0 hz1 rfl .i64 .i64 n rfl rfl (by rw [hz2]; omega) (by omega) ?_)
      go_ret
      obtain ⟨u, hu, q1, q3, q4⟩ := FIN.out
      exact ⟨u, by rw [← hu, ← hszz]; rfl, q1, q3, q4⟩
    · go_enter Try.func43, Try.ntmps43
      go_wp2_with (at_make; refine wpList_make_row _ rfl _ _ _ rfl 5 i0 (.int .u8 0) Try.underlying22 hi hz0 hz1 rfl .i64 .i64 n rfl rfl (by rw [hz2]; omega) (by omega) ?_)
      go_ret
      obtain ⟨u, hu, q1, q3, q4⟩ := FIN.out
      exact ⟨u, by rw [← hu, ← hszz]; rfl, q1, q3, q4⟩
  · have hb1 : bad = false := by cases bad <;> simp_all
    subst hb1
    have hle : n ≤ m := by simpa using hb
    have HT := Lib.hid (show takeP n (false, l) = (l.take n, (false, l.drop n)) by rw [takeP, if_neg (by rw [← HM.out]; simpa using hb)])
    have hleI : (n : Int) ≤ (m : Int) := by omega
    have hltI : ¬ (m : Int) < (n : Int) := by omega
    have hncI : (n : Int) ≤ (c : Int) := by omega
    have hmcI : (m : Int) ≤ (c : Int) := by omega
    have hn0 : (0 : Int) ≤ (n : Int) := by omega
    rw [HT.out]
    rcases Nat.eq_zero_or_pos m with hm0 | hm0
    · subst hm0
      obtain rfl : n = 0 := by omega
      have hl : l = [] := List.eq_nil_of_length_eq_zero HM.out.symm
      subst hl
      have F := fun q (hq : q = p ∨ ∃ a, p = some a ∧ q = some (a.add 0)) => rtake_fin (q := q) B1.out HM.out (Nat.le_refl 0) (Nat.zero_le c) b5 (Rdr.nil w 1 p c) (Rdr.nil w 1 q (c - 0)) B6.out (fun h0 => by omega)
      have F := Lib.hid F
      cases p with
      | none =>
        go_enter Try.func43, Try.ntmps43
        go_wp2_with fail
        go_ret
        have F2 := F.out none (.inl rfl)
        exact ⟨.slice none 0 c, rfl, F2.1, F2.2.1, F2.2.2.1⟩
      | some a =>
        go_enter Try.func43, Try.ntmps43
        go_wp2_with fail
        go_ret
        have F2 := F.out (some a) (.inl rfl)
        exact ⟨.slice (some a) 0 c, rfl, F2.1, F2.2.1, F2.2.2.1⟩
    · obtain ⟨b, o, rfl, hcell⟩ := B3.out.one hm0
      have r1 : Rdr w 1 (.slice (some ⟨b, o, none⟩) n c) n (bys (l.take n)) := ⟨by rw [bys_len, List.length_take, ← HM.out]; omega, _, _, rfl, fun _ => ⟨b, o, rfl, fun j u hu => hcell j u (by rw [bys_take] at hu; rw [List.getElem?_take] at hu; split at hu; exact hu; cases hu)⟩⟩
      have r2 : ∀ o2, (n < m → o2 = o + n) → Rdr w 1 (.slice (some ⟨b, o2, none⟩) (m - n) (c - n)) (m - n) (bys (l.drop n)) := fun o2 ho => ⟨by rw [bys_len, List.length_drop, ← HM.out]; omega, _, _, rfl, fun h => ⟨b, o2, rfl, fun j u hu => by
        rw [ho (by omega), Nat.add_assoc]; exact hcell _ u (by rw [bys_drop, List.getElem?_drop] at hu; exact hu)⟩⟩
      have F := fun o2 (ho : n < m → o2 = o + n) => rtake_fin (q := some ⟨b, o2, none⟩) B1.out HM.out hle b4 b5 r1 (r2 o2 ho) B6.out (fun h0 g hg => B6.out hm0 g hg)
      have F := Lib.hid F
      clear r1 r2 hcell
      go_enter Try.func43, Try.ntmps43
      go_wp2_with fail
      · rename_i h
        subst h
        have F2 := F.out o (fun hh => by omega)
        rw [Nat.sub_self] at F2
        go_ret
        exact ⟨_, rfl, F2⟩
      · go_ret
        exact ⟨_, rfl, F.out (o + n) (fun _ => rfl)⟩
theorem rtext_any (R : Nat) (s : St) (w : World) (h : Rq w R s) :
    Calls Try.prog 41 #[.pointer (some ⟨R, 0, none⟩)] w fun e w' => e = .returned (.string (wordP s).1) ∧ Rq w' R (wordP s).2 ∧ Fr (fun k => k = R) w w' := by
  obtain ⟨s1, hs1⟩ : ∃ s1, s1 = (takeP 1 s).2 := ⟨_, rfl⟩
  obtain ⟨n, hn⟩ : ∃ n, n = headN (takeP 1 s).1 := ⟨_, rfl⟩
  have hn255 : n ≤ 255 := by rw [hn]; exact headN_lt _
  have HW := Lib.hid (show wordP s = (⟨(takeP n s1).1.toArray⟩, (takeP n s1).2) by rw [hn, hs1]; rfl)
  have HT := Lib.hid (rtake_any 1 R s w h (by omega))
  rw [← hs1] at HT
  have HL := Lib.hid (bys_head (l := (takeP 1 s).1) (by rw [takeP_len]; omega))
  rw [← hn] at HL
  clear h hs1 hn
  go_enter Try.func41, Try.ntmps41
  go_wp2_with fail
  refine HT.out.mono ?_
  rintro e w1 ⟨u, rfl, hu, hr1, hf1, -⟩
  obtain ⟨-, up, uc, rfl, -⟩ := id hu
  obtain ⟨b, o, rfl, hcell⟩ := hu.one (by omega)
  have hx := hcell 0 _ HL.out
  rw [Nat.add_zero] at hx
  have HT2 := Lib.hid (rtake_any n R s1 w1 hr1 hn255)
  clear HT HL hcell hu hr1
  go_wp2_with fail
  refine HT2.out.mono ?_
  rintro e w2 ⟨u2, rfl, hu2, hr2, hf2, -⟩
  have hcv := conv_bys w2 _ n u2 hu2
  clear HT2
  go_wp2_with fail
  go_ret
  exact ⟨by rw [HW.out]; rfl, by rw [HW.out]; exact hr2, hf1.trans hf2 (fun _ _ h => h)⟩
theorem rnum_any (R : Nat) (s : St) (w : World) (h : Rq w R s) :
    Calls Try.prog 42 #[.pointer (some ⟨R, 0, none⟩)] w fun e w' => e = .returned (.int .i64 (numP s).1) ∧ Rq w' R (numP s).2 ∧ Fr (fun k => k = R) w w' := by
  have HT := Lib.hid (rtake_any 6 R s w h (by omega))
  obtain ⟨l, hl⟩ : ∃ l, l = (takeP 6 s).1 := ⟨_, rfl⟩
  have hll : l.length = 6 := by rw [hl, takeP_len]
  have HP := Lib.hid (show numP s = (foldB l 0, (takeP 6 s).2) by rw [hl]; rfl)
  rw [← hl] at HT
  have HLL := Lib.hid hll
  clear h hl hll
  go_enter Try.func42, Try.ntmps42
  go_wp2_with fail
  refine HT.out.mono ?_
  rintro e w1 ⟨u, rfl, hu, hr1, hf1, -⟩
  obtain ⟨-, up, uc, rfl, -⟩ := id hu
  obtain ⟨b, o, rfl, hcell⟩ := hu.one (by omega)
  have HCELL := Lib.hid hcell
  clear HT hcell hu
  go_wp2_with fail
  go_loopw [4, 5] (fun x i wr => ∃ k : Nat, k ≤ 6 ∧ i = .int .i64 k ∧ x = .int .i64 (foldB (l.take k) 0) ∧ w1 = wr) (fun _ i _ => 6 - (intOf i).toNat)
  case atStart => exact ⟨0, by omega, rfl, rfl, rfl⟩
  case round =>
    obtain ⟨k, hk, rfl, rfl, rfl⟩ := hrel
    by_cases hlt : k < 6
    · obtain ⟨c, hc⟩ : ∃ c, l[k]? = some c := ⟨l[k]'(by have := HLL.out; omega), List.getElem?_eq_getElem _⟩
      have cx := HCELL.out k _ (bys_get hc)
      obtain ⟨f0, f1⟩ := foldB_lt l k (by omega)
      have HF := Lib.hid (foldB_take l k c hc)
      obtain ⟨q, hq⟩ : ∃ q, q = foldB (l.take k) 0 := ⟨_, rfl⟩
      rw [← hq] at HF f0 f1 ⊢
      have hcl := c.toNat_lt
      clear hc hq
      go_wp2_with fail
      go_roundw
      case rel => exact ⟨k + 1, by omega, by go_num, by rw [HF.out]; go_num, trivial⟩
      case measure => simp [intOf]; omega
    · have hk6 : l.take k = l := List.take_of_length_le (by have := HLL.out; omega)
      have H2 := Lib.hid (show foldB (l.take k) 0 = (numP s).1 by rw [hk6, HP.out])
      have H3 := Lib.hid (show (takeP 6 s).2 = (numP s).2 by rw [HP.out])
      rw [H3.out] at hr1
      rw [H2.out]
      have HR := Lib.hid hr1
      clear hk6 hr1
      go_wp2_with fail
      go_ret
      exact ⟨rfl, HR.out, hf1⟩
end Go.Proofs.Ytfdajignnnhnmaa
