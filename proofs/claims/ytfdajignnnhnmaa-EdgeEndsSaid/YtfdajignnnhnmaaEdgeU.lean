/- edges: a prop by its key -/
import Derived.Test.YtfdajignnnhnmaaEdgeS
import Derived.Deep.LoopGhost
namespace Go.Proofs.Ytfdajignnnhnmaa
set_option linter.unusedVariables false
set_option linter.unusedSimpArgs false
open Go.RowKit Go.Shelf
attribute [local go_sem] Oper.semAt_some

/-- the first prop with this key -/
def propF (ps : List Prp) (s : ByteArray) : Val × Bool :=
  match ps.find? (fun p => decide (p.1 = s)) with
  | some p => (p.2, true)
  | none => ((0, 0, ⟨#[]⟩), false)
theorem propF_yes {ps : List Prp} {k : Nat} {p : Prp} {s : ByteArray} (h : ps[k]? = some p) (hp : p.1 = s) : propF (ps.drop k) s = (p.2, true) := by
  obtain ⟨h1, h2⟩ := List.getElem?_eq_some_iff.1 h
  rw [List.drop_eq_getElem_cons h1, h2, propF, List.find?_cons_of_pos (by simpa using hp)]
theorem propF_no {ps : List Prp} {k : Nat} {p : Prp} {s : ByteArray} (h : ps[k]? = some p) (hp : p.1 ≠ s) : propF (ps.drop k) s = propF (ps.drop (k + 1)) s := by
  obtain ⟨h1, h2⟩ := List.getElem?_eq_some_iff.1 h
  rw [List.drop_eq_getElem_cons h1, h2, propF, List.find?_cons_of_neg (by simpa using hp)]; rfl
theorem set3 {w W : World} {R : Nat} {ty : TypeId} {a0 a1 a2 : Value} (hg : G w W) (hR : w.heap.size ≤ R) (h : W.heap[R]? = some (.cells #[a0, a1, a2] ty (0, 0))) (v0 v1 v2 : Value) :
    G w (((W.setCell ⟨R, 0, none⟩ v0).setCell ⟨R, 1, none⟩ v1).setCell ⟨R, 2, none⟩ v2) ∧ (((W.setCell ⟨R, 0, none⟩ v0).setCell ⟨R, 1, none⟩ v1).setCell ⟨R, 2, none⟩ v2).heap[R]? = some (.cells #[v0, v1, v2] ty (0, 0)) :=
  ⟨((hg.setCell hR _).setCell hR _).setCell hR _, heap_setCell_at _ R 2 _ _ _ _ (heap_setCell_at _ R 1 _ _ _ _ (heap_setCell_at _ R 0 _ _ _ _ h))⟩
theorem cells3 {W : World} {R : Nat} {ty : TypeId} {v0 v1 v2 : Value} (h : W.heap[R]? = some (.cells #[v0, v1, v2] ty (0, 0))) :
    W.cell? ⟨R, 0, none⟩ = some v0 ∧ W.cell? ⟨R, 1, none⟩ = some v1 ∧ W.cell? ⟨R, 2, none⟩ = some v2 := by
  unfold World.cell?; rw [h]; exact ⟨rfl, rfl, rfl⟩
theorem beq_f {x y : ByteArray} (h : x ≠ y) : (x.toList == y.toList) = false := by rw [str_beq]; simpa using h
theorem beq_t {x y : ByteArray} (h : x = y) : (x.toList == y.toList) = true := by rw [str_beq]; simpa using h
set_option maxHeartbeats 1000000 in
theorem prop_any (E : Edg) (s : ByteArray) (w : World) (hE : EdgAt w E) :
    Calls Try.prog 20 #[ev E, .string s] w fun e w' => e = .returned (.tuple #[vv (propF E.ps s).1, .bool (propF E.ps s).2]) ∧ G w w' := by
  obtain ⟨f, t, l, tm, v, ps⟩ := E
  obtain ⟨-, vp, vc, hvv, -⟩ := id hE.rdr
  simp only at hvv
  obtain ⟨m, hm⟩ : ∃ m, m = ps.length := ⟨_, rfl⟩
  have hR0 : ∀ W, G w W → Rdr W 4 (.slice vp m vc) ps.length (pcells ps) := fun W hW => by
    have := hE.rdr.g hW
    simp only [hvv] at this
    rw [hm]; exact this
  have hmn := hE.n
  simp only at hmn
  rw [← hm] at hvv hmn
  subst hvv
  have HR := Lib.hid hR0
  have HM := Lib.hid hm
  unfold ev
  simp only
  obtain ⟨pf, hpf⟩ : ∃ x, x = propF ps s := ⟨_, rfl⟩
  rw [← hpf]
  have HPF := Lib.hid hpf
  have hgA : G w ((w.alloc (.cells #[.string f, .string t, .string l, .int .i64 tm, .slice vp m vc] 27)).alloc (.cells #[.int .i64 0, .int .i64 0, .string ⟨#[]⟩] 43)) := ((G.refl w).alloc _).alloc _
  have hbZ := alloc_new (w.alloc (.cells #[.string f, .string t, .string l, .int .i64 tm, .slice vp m vc] 27)) (.cells #[.int .i64 0, .int .i64 0, .string ⟨#[]⟩] 43)
  rw [World.size_alloc] at hbZ
  obtain ⟨W, hW⟩ : ∃ X : World, X = (w.alloc (.cells #[.string f, .string t, .string l, .int .i64 tm, .slice vp m vc] 27)).alloc (.cells #[.int .i64 0, .int .i64 0, .string ⟨#[]⟩] 43) := ⟨_, rfl⟩
  rw [← hW] at hgA hbZ
  have hbE : W.heap[w.heap.size]? = some (.cells #[.string f, .string t, .string l, .int .i64 tm, .slice vp m vc] 27 (0, 0)) := by rw [hW]; exact (((G.refl _).alloc _).block (by rw [World.size_alloc]; omega)).trans (alloc_new w _)
  have HW := Lib.hid hW
  have HBE := Lib.hid hbE
  have HBZ := Lib.hid hbZ
  have HGA := Lib.hid hgA
  clear hE hR0 hm hpf hgA hbE hbZ hW
  go_enter Try.func20, Try.ntmps20
  go_wp2_with fail
  rw [← HW.out]
  go_step3
  obtain ⟨-, -, -, -, e4⟩ := cells5 HBE.out
  go_wp2_with fail
  go_step3
  go_wp2_with fail
  go_loopg [11] m (fun g i wr => ∃ k : Nat, k ≤ m ∧ g = m - k ∧ i = .int .i64 k ∧ Hid (pf = propF (ps.drop k) s) ∧ G W wr)
  case atStart => exact ⟨0, by omega, by omega, rfl, Lib.hid (by rw [HPF.out]; rfl), G.refl W⟩
  case round =>
    clear e4
    obtain ⟨k, hk, rfl, rfl, HP, hg⟩ := hrel
    have hbz := (hg.block (heap_lt HBZ.out)).trans HBZ.out
    have HZ := Lib.hid hbz
    obtain ⟨z0, z1, z2⟩ := cells3 hbz
    have y0 : wr.frozen? ⟨w.heap.size + 1, 0, none⟩ = false := by unfold World.frozen?; rw [hbz]; simp
    have y1 : wr.frozen? ⟨w.heap.size + 1, 1, none⟩ = false := by unfold World.frozen?; rw [hbz]; simp
    have y2 : wr.frozen? ⟨w.heap.size + 1, 2, none⟩ = false := by unfold World.frozen?; rw [hbz]; simp
    clear hbz
    by_cases hlt : k < m
    · have hltI : (k : Int) < (m : Int) := by omega
      obtain ⟨x, hx⟩ : ∃ x, ps[k]? = some x := ⟨ps[k]'(by have := HM.out; omega), List.getElem?_eq_getElem _⟩
      have hrr := HR.out wr (HGA.out.trans hg)
      rw [← HM.out] at hrr
      obtain ⟨b, o, rfl, q0, q1, q2, q3⟩ := (show Rdr wr 4 (.slice vp m vc) m (pcells ps) from hrr).prop hx
      obtain ⟨xk, xv1, xv2, xv3⟩ := x
      simp only at q0 q1 q2 q3
      obtain ⟨W2, hW2⟩ : ∃ X : World, X = wr.alloc (.cells #[.string xk, .int .i64 xv1, .int .i64 xv2, .string xv3] 56) := ⟨_, rfl⟩
      have hg2 : G wr W2 := by rw [hW2]; exact (G.refl wr).alloc _
      have hb2 : W2.heap[wr.heap.size]? = some (.cells #[.string xk, .int .i64 xv1, .int .i64 xv2, .string xv3] 56 (0, 0)) := by rw [hW2]; exact alloc_new _ _
      have HW2 := Lib.hid hW2
      obtain ⟨r0, r1, r2, r3⟩ := cells4 hb2
      have hwz : W.heap.size ≤ wr.heap.size := hg.size
      have hzl := heap_lt HBZ.out
      clear hW2 hb2 hrr
      by_cases hks : xk = s
      · have HP2 := Lib.hid (show pf = ((xv1, xv2, xv3), true) by rw [HP.out, propF_yes hx hks])
        have hq := beq_t hks
        clear hx hks
        go_upto_region 4 with fail
        rw [← HW2.out]
        have hbz2 := (hg2.block (heap_lt HZ.out)).trans HZ.out
        obtain ⟨z0, z1, z2⟩ := cells3 hbz2
        have y0 : W2.frozen? ⟨w.heap.size + 1, 0, none⟩ = false := by unfold World.frozen?; rw [hbz2]; simp
        have y1 : W2.frozen? ⟨w.heap.size + 1, 1, none⟩ = false := by unfold World.frozen?; rw [hbz2]; simp
        have y2 : W2.frozen? ⟨w.heap.size + 1, 2, none⟩ = false := by unfold World.frozen?; rw [hbz2]; simp
        obtain ⟨hgF, hrF⟩ := set3 ((HGA.out.trans hg).trans hg2) (show w.heap.size ≤ w.heap.size + 1 by omega) hbz2 (.int .i64 xv1) (.int .i64 xv2) (.string xv3)
        obtain ⟨t0, t1, t2⟩ := cells3 hrF
        clear hbz2 hrF q0 q1 q2 q3
        go_wp2_with fail
        try rw [Exit.noGoto_ret]
        refine bodyPost_ret (v := .tuple #[vv (xv1, xv2, xv3), .bool true]) ?_ rfl ⟨by rw [HP2.out], hgF⟩
        simp [results, Try.results20, go_sem, t0, t1, t2, vv]
      · have HP2 := Lib.hid (show pf = propF (ps.drop (k + 1)) s by rw [HP.out, propF_no hx hks])
        have hq := beq_f hks
        clear hx hks
        go_upto_region 4 with fail
        rw [← HW2.out]
        clear q0 q1 q2 q3 z0 z1 z2 y0 y1 y2
        go_wp2_with fail
        go_roundg (m - (k + 1))
        case rel => exact ⟨k + 1, by omega, rfl, by go_num, HP2, hg.trans hg2⟩
        all_goals omega
    · have hlt3 : decide (k < m) = false := by simpa using hlt
      have hltI : ¬ (k : Int) < (m : Int) := by omega
      have HP2 := Lib.hid (show pf = ((0, 0, ⟨#[]⟩), false) by rw [HP.out, List.drop_of_length_le (by have := HM.out; omega)]; rfl)
      obtain ⟨hgF, hrF⟩ := set3 (HGA.out.trans hg) (show w.heap.size ≤ w.heap.size + 1 by omega) HZ.out (.int .i64 0) (.int .i64 0) (.string ⟨#[]⟩)
      obtain ⟨t0, t1, t2⟩ := cells3 hrF
      clear hrF
      go_wp2_with fail
      try rw [Exit.noGoto_ret]
      refine bodyPost_ret (v := .tuple #[vv (0, 0, ⟨#[]⟩), .bool false]) ?_ rfl ⟨by rw [HP2.out], hgF⟩
      simp [results, Try.results20, go_sem, t0, t1, t2, vv]
set_option maxHeartbeats 1000000 in
theorem rprop_any (E : Edg) (s : ByteArray) (w : World) (hE : EdgAt w E) :
    Calls Try.prog 21 #[ev E, .string s] w fun e w' => e = .returned (.tuple #[vv (propF E.ps s).1, .bool (propF E.ps s).2]) ∧ G w w' := by
  obtain ⟨f, t, l, tm, v, ps⟩ := E
  obtain ⟨-, vp, vc, hvv, -⟩ := id hE.rdr
  simp only at hvv
  obtain ⟨m, hm⟩ : ∃ m, m = ps.length := ⟨_, rfl⟩
  have hR0 : ∀ W, G w W → Rdr W 4 (.slice vp m vc) ps.length (pcells ps) := fun W hW => by
    have := hE.rdr.g hW
    simp only [hvv] at this
    rw [hm]; exact this
  have hmn := hE.n
  simp only at hmn
  rw [← hm] at hvv hmn
  subst hvv
  have HR := Lib.hid hR0
  have HM := Lib.hid hm
  unfold ev
  simp only
  obtain ⟨pf, hpf⟩ : ∃ x, x = propF ps s := ⟨_, rfl⟩
  rw [← hpf]
  have HPF := Lib.hid hpf
  have hgA : G w ((w.alloc (.cells #[.string f, .string t, .string l, .int .i64 tm, .slice vp m vc] 27)).alloc (.cells #[.int .i64 0, .int .i64 0, .string ⟨#[]⟩] 43)) := ((G.refl w).alloc _).alloc _
  have hbZ := alloc_new (w.alloc (.cells #[.string f, .string t, .string l, .int .i64 tm, .slice vp m vc] 27)) (.cells #[.int .i64 0, .int .i64 0, .string ⟨#[]⟩] 43)
  rw [World.size_alloc] at hbZ
  obtain ⟨W, hW⟩ : ∃ X : World, X = (w.alloc (.cells #[.string f, .string t, .string l, .int .i64 tm, .slice vp m vc] 27)).alloc (.cells #[.int .i64 0, .int .i64 0, .string ⟨#[]⟩] 43) := ⟨_, rfl⟩
  rw [← hW] at hgA hbZ
  have hbE : W.heap[w.heap.size]? = some (.cells #[.string f, .string t, .string l, .int .i64 tm, .slice vp m vc] 27 (0, 0)) := by rw [hW]; exact (((G.refl _).alloc _).block (by rw [World.size_alloc]; omega)).trans (alloc_new w _)
  have HW := Lib.hid hW
  have HBE := Lib.hid hbE
  have HBZ := Lib.hid hbZ
  have HGA := Lib.hid hgA
  clear hE hR0 hm hpf hgA hbE hbZ hW
  go_enter Try.func21, Try.ntmps21
  go_wp2_with fail
  rw [← HW.out]
  go_loopw [6] (fun i wr => ∃ k : Nat, k ≤ m ∧ i = .int .i64 k ∧ Hid (pf = propF (ps.drop k) s) ∧ W = wr) (fun i _ => m - (intOf i).toNat)
  case atStart => exact ⟨0, by omega, rfl, Lib.hid (by rw [HPF.out]; rfl), rfl⟩
  case round =>
    obtain ⟨k, hk, rfl, HP, rfl⟩ := hrel
    obtain ⟨-, -, -, -, e4⟩ := cells5 HBE.out
    obtain ⟨z0, z1, z2⟩ := cells3 HBZ.out
    have hbz := HBZ.out
    have y0 : W.frozen? ⟨w.heap.size + 1, 0, none⟩ = false := by unfold World.frozen?; rw [hbz]; simp
    have y1 : W.frozen? ⟨w.heap.size + 1, 1, none⟩ = false := by unfold World.frozen?; rw [hbz]; simp
    have y2 : W.frozen? ⟨w.heap.size + 1, 2, none⟩ = false := by unfold World.frozen?; rw [hbz]; simp
    clear hbz
    by_cases hlt : k < m
    · have hltI : (k : Int) < (m : Int) := by omega
      obtain ⟨x, hx⟩ : ∃ x, ps[k]? = some x := ⟨ps[k]'(by have := HM.out; omega), List.getElem?_eq_getElem _⟩
      have hrr := HR.out W HGA.out
      rw [← HM.out] at hrr
      obtain ⟨b, o, rfl, q0, q1, q2, q3⟩ := (show Rdr W 4 (.slice vp m vc) m (pcells ps) from hrr).prop hx
      obtain ⟨xk, xv1, xv2, xv3⟩ := x
      simp only at q0 q1 q2 q3
      clear hrr
      by_cases hks : xk = s
      · have HP2 := Lib.hid (show pf = ((xv1, xv2, xv3), true) by rw [HP.out, propF_yes hx hks])
        have hq := beq_t hks
        obtain ⟨hgF, hrF⟩ := set3 HGA.out (show w.heap.size ≤ w.heap.size + 1 by omega) HBZ.out (.int .i64 xv1) (.int .i64 xv2) (.string xv3)
        obtain ⟨t0, t1, t2⟩ := cells3 hrF
        clear hx hks hrF
        go_wp2_with fail
        refine bodyPost_ret (v := .tuple #[vv (xv1, xv2, xv3), .bool true]) ?_ rfl ⟨by rw [HP2.out], hgF⟩
        simp [results, Try.results21, go_sem, t0, t1, t2, vv]
      · have HP2 := Lib.hid (show pf = propF (ps.drop (k + 1)) s by rw [HP.out, propF_no hx hks])
        have hq := beq_f hks
        clear hx hks
        go_wp2_with fail
        go_roundw
        case rel => exact ⟨k + 1, by omega, by go_num, HP2, trivial⟩
        case measure => simp [intOf]; omega
    · have hltI : ¬ (k : Int) < (m : Int) := by omega
      have HP2 := Lib.hid (show pf = ((0, 0, ⟨#[]⟩), false) by rw [HP.out, List.drop_of_length_le (by have := HM.out; omega)]; rfl)
      obtain ⟨hgF, hrF⟩ := set3 HGA.out (show w.heap.size ≤ w.heap.size + 1 by omega) HBZ.out (.int .i64 0) (.int .i64 0) (.string ⟨#[]⟩)
      obtain ⟨t0, t1, t2⟩ := cells3 hrF
      clear hrF
      go_wp2_with fail
      refine bodyPost_ret (v := .tuple #[vv (0, 0, ⟨#[]⟩), .bool false]) ?_ rfl ⟨by rw [HP2.out], hgF⟩
      simp [results, Try.results21, go_sem, t0, t1, t2, vv]
end Go.Proofs.Ytfdajignnnhnmaa
