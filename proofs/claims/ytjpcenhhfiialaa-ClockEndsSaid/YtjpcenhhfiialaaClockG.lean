/- two rows of numbers; the document's closes -/
import Derived.Test.YtjpcenhhfiialaaClockF
namespace Go.Proofs.Ytjpcenhhfiialaa
set_option linter.unusedVariables false
open Go.RowKit Go.Shelf

theorem ownsRow_cellAt {W : World} {base : Nat} {e : TypeId} {g n c : Nat} {xs : List Value} (h : W.ownsRow base e 1 (.slice (some ⟨g, 0, none⟩) n c) n xs) {j : Nat} {u : Value} (hu : xs[j]? = some u) : W.cell? ⟨g, j, none⟩ = some u := by
  have := h.cells (g := g) rfl j u hu
  have hadd : (⟨g, 0, none⟩ : Addr).add j = ⟨g, j, none⟩ := by unfold Addr.add; split <;> simp_all
  rwa [hadd] at this
theorem ownsRow_addr {W : World} {base : Nat} {e : TypeId} {size : Nat} {v : Value} {k : Nat} {xs : List Value} (h : W.ownsRow base e size v k xs) (hk : 0 < k) : ∃ g c, v = .slice (some ⟨g, 0, none⟩) k c := by
  rcases h.2 with ⟨rfl, rfl⟩ | ⟨g, cap, cur, rfl, _⟩
  · omega
  · exact ⟨_, _, rfl⟩
theorem take_ne_of_get {α : Type} {xs ys : List α} {k : Nat} {x y : α} (hx : xs[k]? = some x) (hy : ys[k]? = some y) (hne : x ≠ y) : xs ≠ ys := by
  rintro rfl; rw [hx] at hy; exact hne (by simpa using hy)

theorem same_ints_pos (xs ys : List Int) (n ga gb ca cb ba bb : Nat) (w : World) (ha : w.ownsRow ba 3 1 (.slice (some ⟨ga, 0, none⟩) n ca) n (ints xs)) (hb : w.ownsRow bb 3 1 (.slice (some ⟨gb, 0, none⟩) n cb) n (ints ys))
    (hxn : xs.length = n) (hyn : ys.length = n) (hn : n ≤ 1099511627776) :
    Calls Try.prog 20 #[.slice (some ⟨ga, 0, none⟩) n ca, .slice (some ⟨gb, 0, none⟩) n cb] w fun e w' => e = .returned (.bool (decide (xs = ys))) ∧ G w w' := by
  have HA := Lib.hid ha
  have HB := Lib.hid hb
  have HX := Lib.hid hxn
  have HY := Lib.hid hyn
  clear ha hb hxn hyn
  go_enter Try.func20, Try.ntmps20
  go_wp2_with fail
  go_loopw [5] (fun i wr => ∃ k : Nat, k ≤ n ∧ i = .int .i64 k ∧ Hid (xs.take k = ys.take k) ∧ ∃ n, wr = w.drewN n) (fun i _ => n - (intOf i).toNat)
  case atStart => exact ⟨0, by omega, rfl, (rfl : xs.take 0 = ys.take 0), 0, rfl⟩
  case round =>
    obtain ⟨k, hk, rfl, HT, nn, rfl⟩ := hrel
    by_cases hlt : k < n
    · obtain ⟨x, hx1⟩ : ∃ x, xs[k]? = some x := ⟨xs[k]'(by have := HX.out; omega), List.getElem?_eq_getElem _⟩
      obtain ⟨y, hy1⟩ : ∃ y, ys[k]? = some y := ⟨ys[k]'(by have := HY.out; omega), List.getElem?_eq_getElem _⟩
      have c1 : w.cell? ⟨ga, k, none⟩ = some (.int .i64 x) := ownsRow_cellAt HA.out (by simp [ints, hx1])
      have c2 : w.cell? ⟨gb, k, none⟩ = some (.int .i64 y) := ownsRow_cellAt HB.out (by simp [ints, hy1])
      have HX1 := Lib.hid hx1
      have HY1 := Lib.hid hy1
      clear hx1 hy1
      cases hxy : (x != y)
      · go_wp2_with fail
        go_quiet (fail)
        go_wp2_with fail
        go_roundw
        case rel =>
          refine ⟨k + 1, by omega, by go_num, ?_, _, rfl⟩
          have e : x = y := by simpa using hxy
          show xs.take (k + 1) = ys.take (k + 1)
          rw [List.take_add_one, List.take_add_one, HT.out, HX1.out, HY1.out, e]
        case measure => simp [intOf]; omega
      · have HV := Lib.hid (show decide (xs = ys) = false by
          have e : x ≠ y := by simpa using hxy
          simpa using take_ne_of_get HX1.out HY1.out e)
        go_wp2_with fail
        go_quiet (fail)
        go_wp2_with fail
        go_ret
        exact ⟨by rw [HV.out]; rfl, ((G.refl w).drewN _).drewN _⟩
    · have HV := Lib.hid (show decide (xs = ys) = true by
        have e := HT.out
        rw [List.take_of_length_le (by have := HX.out; omega), List.take_of_length_le (by have := HY.out; omega)] at e
        simpa using e)
      go_wp2_with fail
      go_ret
      exact ⟨by rw [HV.out]; rfl, (G.refl w).drewN _⟩

theorem same_ints (xs ys : List Int) (va vb : Value) (ba bb : Nat) (w : World) (ha : w.ownsRow ba 3 1 va xs.length (ints xs)) (hb : w.ownsRow bb 3 1 vb ys.length (ints ys))
    (hx : xs.length ≤ 1099511627776) (hy : ys.length ≤ 1099511627776) :
    Calls Try.prog 20 #[va, vb] w fun e w' => e = .returned (.bool (decide (xs = ys))) ∧ G w w' := by
  by_cases hl : xs.length = ys.length
  · by_cases h0 : 0 < xs.length
    · obtain ⟨ga, ca, rfl⟩ := ownsRow_addr ha h0
      obtain ⟨gb, cb, rfl⟩ := ownsRow_addr hb (by omega)
      rw [← hl] at hb ⊢
      exact same_ints_pos xs ys xs.length ga gb ca cb ba bb w ha hb rfl hl.symm hx
    · have e1 : xs = [] := List.eq_nil_of_length_eq_zero (by omega)
      have e2 : ys = [] := List.eq_nil_of_length_eq_zero (by omega)
      subst e1; subst e2
      obtain ⟨p, c, rfl⟩ := ownsRow_shape ha
      obtain ⟨q, d, rfl⟩ := ownsRow_shape hb
      clear ha hb hl h0 hx hy
      show Calls Try.prog 20 #[.slice p 0 c, .slice q 0 d] w _
      go_enter Try.func20, Try.ntmps20
      go_wp2_with fail
      go_rounds 1
      go_ret
      exact ⟨rfl, G.refl _⟩
  · obtain ⟨p, c, rfl⟩ := ownsRow_shape ha
    obtain ⟨q, d, rfl⟩ := ownsRow_shape hb
    have HV := Lib.hid (show decide (xs = ys) = false by simp; rintro rfl; exact hl rfl)
    have hne : ((xs.length : Int) != (ys.length : Int)) = true := by simp; omega
    clear ha hb
    go_enter Try.func20, Try.ntmps20
    go_wp2_with fail
    go_ret
    exact ⟨by rw [HV.out]; rfl, G.refl _⟩

set_option maxHeartbeats 400000 in
theorem rCloses_any (a b s m : Int) (w : World) (hm : 0 ≤ m) (hm2 : m ≤ 600) :
    Calls Try.prog 22 #[.int .i64 a, .int .i64 b, .int .i64 s, .int .i64 m] w fun e w' => ∃ v, e = .returned v ∧ w'.ownsRow w.heap.size 3 1 v (firstL a b s m).length (ints (firstL a b s m)) ∧ G w w' := by
  obtain ⟨i0, hi, hz0, hz1, hz2⟩ := info_parts info3
  cases hok : (mk a && mk b && wn s)
  · have HC := Lib.hid (show countV a b s = .tuple #[.int .i64 0, .int .i64 2] by simp only [countV, hok]; rfl)
    have hf : firstL a b s m = [] := by simp [firstL, closesL, hok]
    go_enter Try.func22, Try.ntmps22
    go_wp2_with fail
    refine (rCount_any _ _ _ _).mono ?_; rw [HC.out]; rintro e w' ⟨rfl, rfl⟩
    go_wp2_with fail
    go_rounds 1
    go_ret
    exact ⟨_, rfl, by rw [hf]; exact World.ownsRow_nil _ _ _ _, G.refl _⟩
  · have HC := Lib.hid (show countV a b s = .tuple #[.int .i64 (countN a b s), .int .i64 0] by simp only [countV, hok, if_true])
    have hok' := hok
    simp only [Bool.and_eq_true] at hok'
    obtain ⟨⟨ha, hb⟩, hs⟩ := hok'
    obtain ⟨ha1, ha2⟩ := mk_iff.1 ha
    obtain ⟨hb1, hb2⟩ := mk_iff.1 hb
    obtain ⟨hs1, hs2⟩ := wn_iff.1 hs
    obtain ⟨q1, q2⟩ := past_bd hs1 ha2
    obtain ⟨q3, q4⟩ := past_bd hs1 hb2
    have hn0 : 0 ≤ countN a b s := by unfold countN; omega
    have hn1 : countN a b s ≤ 1099511627776 := by unfold countN; omega
    have hf : firstL a b s m = (List.range (min m.toNat (countN a b s).toNat)).map (closeAt a s) := by
      simp only [firstL, closesL, hok, if_true]
      rw [← List.map_take, List.take_range]
    have HF := Lib.hid hf
    clear ha hb hs hok hf
    go_enter Try.func22, Try.ntmps22
    go_wp2_with fail
    refine (rCount_any _ _ _ _).mono ?_; rw [HC.out]; rintro e w' ⟨rfl, rfl⟩
    go_wp2_with fail
    go_loopw [11, 12] (fun v i wr => ∃ k : Nat, k ≤ m.toNat ∧ k ≤ (countN a b s).toNat ∧ i = .int .i64 ((k : Int) + 1) ∧ wr.ownsRow w.heap.size 3 1 v k (ints ((List.range k).map (closeAt a s))) ∧ G w wr) (fun _ i _ => m.toNat + 1 - (intOf i).toNat)
    case atStart => exact ⟨0, by omega, by omega, rfl, World.ownsRow_nil _ _ _ _, G.refl _⟩
    case round =>
      obtain ⟨k, hk1, hk2, rfl, hrow, hg⟩ := hrel
      by_cases hlt : (k : Int) + 1 ≤ countN a b s
      · by_cases hlt2 : (k : Int) + 1 ≤ m
        · have hcl := closeAt_le (i := k) hs1 (show (k : Int) < countN a b s by omega)
          have hlo := closeAt_lo (a := a) (i := k) hs1 q1
          rw [closeAt_eq] at hcl hlo
          have hgs := hg.size
          have hq5 : (past a s + ((k : Int) + 1)) * s ≤ 1099511627776 := by omega
          have hq6 : 0 ≤ (past a s + ((k : Int) + 1)) * s := by omega
          clear hcl hlo
          go_wp2_with (first | (go_at_call 27; refine (down_any _ _ _ hs1 ha2).mono ?_; rintro e w' ⟨rfl, rfl⟩) | (at_builtin; refine wpList_append2 _ rfl _ _ 30 rfl w.heap.size 3 i0 (.int .i64 0) 1 8 Try.underlying30 hi hz0 hz1 hz2 rfl (by decide) _ k _ rfl (hrow.alloc _) ⟨wr.heap.size, 0, none⟩ 1 1 [.int .i64 ((past a s + ((k : Int) + 1)) * s)] rfl rfl (cell_one_new _ _ _) (by simp [Value.oneCell']) (by unfold maxLen; omega) (by omega) (by simp; omega) ?_; intro v' w1 hown' hgrow _ _))
          go_roundw
          case rel =>
            refine ⟨k + 1, by omega, by omega, by go_num, ?_, (hg.alloc (.cells #[.int .i64 ((past a s + ((k : Int) + 1)) * s)] 3)).grown hgrow (fun g h => (hrow.lt g h).1)⟩
            rw [range_map_succ, closeAt_eq]
            simpa [ints] using hown'
          case measure => simp [intOf]; omega
        · have hk : min m.toNat (countN a b s).toNat = k := by omega
          go_wp2_with fail
          go_ret
          exact ⟨_, rfl, by rw [HF.out, hk]; simpa using hrow, hg⟩
      · have hk : min m.toNat (countN a b s).toNat = k := by omega
        go_wp2_with fail
        go_ret
        exact ⟨_, rfl, by rw [HF.out, hk]; simpa using hrow, hg⟩
end Go.Proofs.Ytjpcenhhfiialaa
