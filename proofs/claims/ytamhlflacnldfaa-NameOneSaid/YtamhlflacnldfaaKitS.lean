/- two lists of texts, of numbers -/
import Derived.Test.YtamhlflacnldfaaKitT
namespace Go.Proofs.Ytamhlflacnldfaa
set_option linter.unusedVariables false
set_option linter.unusedSimpArgs false
open Go.RowKit Go.Shelf
theorem take_ne_of_get {α : Type} {xs ys : List α} {k : Nat} {x y : α} (hx : xs[k]? = some x) (hy : ys[k]? = some y) (hne : x ≠ y) : xs ≠ ys := by
  rintro rfl; rw [hx] at hy; exact hne (by simpa using hy)
/-- the loop of the tests whether two lists are one -/
theorem take_step {α : Type} {xs ys : List α} {k : Nat} {x y : α} (h : xs.take k = ys.take k) (hx : xs[k]? = some x) (hy : ys[k]? = some y) (e : x = y) : xs.take (k + 1) = ys.take (k + 1) := by
  rw [List.take_add_one, List.take_add_one, h, hx, hy, e]
theorem take_all {α : Type} {xs ys : List α} {n k : Nat} (h : xs.take k = ys.take k) (hx : n = xs.length) (hy : n = ys.length) (hk : n ≤ k) : xs = ys := by
  rwa [List.take_of_length_le (by omega), List.take_of_length_le (by omega)] at h

theorem sameT_any (xs ys : List ByteArray) (va vb : Value) (w : World) (ha : Rdr w 1 va xs.length (strs xs)) (hb : Rdr w 1 vb ys.length (strs ys)) (hx : xs.length ≤ 1099511627776) (hy : ys.length ≤ 1099511627776) :
    Calls Try.prog 26 #[va, vb] w fun e w' => e = .returned (.bool (decide (xs = ys))) ∧ G w w' := by
  obtain ⟨p, c, rfl, -, hpc⟩ := ha.at
  obtain ⟨q, d, rfl, -, hqd⟩ := hb.at
  by_cases hl : xs.length = ys.length
  · obtain ⟨n, hnx⟩ : ∃ n, n = xs.length := ⟨_, rfl⟩
    have hny : n = ys.length := by omega
    rw [← hnx] at hpc ha hx ⊢
    rw [← hny] at hqd hb ⊢
    have HX := Lib.hid hnx
    have HY := Lib.hid hny
    have HP := Lib.hid hpc
    have HQ := Lib.hid hqd
    clear hnx hny hpc hqd ha hb hl hy
    go_enter Try.func26, Try.ntmps26
    go_wp2_with fail
    go_loopw [5] (fun i wr => ∃ k : Nat, k ≤ n ∧ i = .int .i64 k ∧ Hid (xs.take k = ys.take k) ∧ G w wr) (fun i _ => n - (intOf i).toNat)
    case atStart => exact ⟨0, by omega, rfl, (rfl : xs.take 0 = ys.take 0), G.refl _⟩
    case round =>
      obtain ⟨k, hk, rfl, HT, hg⟩ := hrel
      by_cases hlt : k < n
      · obtain ⟨x, hx1⟩ : ∃ x, xs[k]? = some x := ⟨xs[k]'(by have := HX.out; omega), List.getElem?_eq_getElem _⟩
        obtain ⟨y, hy1⟩ : ∃ y, ys[k]? = some y := ⟨ys[k]'(by have := HY.out; omega), List.getElem?_eq_getElem _⟩
        obtain ⟨b1, o1, rfl, h1⟩ := HP.out (by omega)
        obtain ⟨b2, o2, rfl, h2⟩ := HQ.out (by omega)
        have c1 := hg.cell (h1 k _ (strs_get hx1))
        have c2 := hg.cell (h2 k _ (strs_get hy1))
        have HX1 := Lib.hid hx1
        have HY1 := Lib.hid hy1
        clear hx1 hy1 h1 h2
        by_cases hxy : x = y
        · have he := str_eq hxy
          go_wp2_with fail
          go_quiet (fail)
          go_wp2_with fail
          go_roundw
          case rel => exact ⟨k + 1, by omega, by go_num, take_step HT.out HX1.out HY1.out hxy, hg.drewN _⟩
          case measure => simp [intOf]; omega
        · have he := str_ne hxy
          have HV := Lib.hid (show decide (xs = ys) = false by simpa using take_ne_of_get HX1.out HY1.out hxy)
          go_wp2_with fail
          go_quiet (fail)
          go_wp2_with fail
          go_ret
          exact ⟨by rw [HV.out]; rfl, hg.drewN _⟩
      · have HV := Lib.hid (show decide (xs = ys) = true by simpa using take_all HT.out HX.out HY.out (by omega))
        go_wp2_with fail
        go_ret
        exact ⟨by rw [HV.out]; rfl, hg⟩
  · have HV := Lib.hid (show decide (xs = ys) = false by simp; rintro rfl; exact hl rfl)
    have hne : ((xs.length : Int) != (ys.length : Int)) = true := by simp; omega
    clear hpc hqd ha hb
    go_enter Try.func26, Try.ntmps26
    go_wp2_with fail
    go_ret
    exact ⟨by rw [HV.out]; rfl, G.refl _⟩
def ints (l : List Int) : List Value := l.map (Value.int .i64)
theorem ints_get {ss : List Int} {k : Nat} {s : Int} (h : ss[k]? = some s) : (ints ss)[k]? = some (.int .i64 s) := by simp [ints, h]
theorem ints_len (ss : List Int) : (ints ss).length = ss.length := by simp [ints]
theorem sameI_any (xs ys : List Int) (va vb : Value) (w : World) (ha : Rdr w 1 va xs.length (ints xs)) (hb : Rdr w 1 vb ys.length (ints ys)) (hx : xs.length ≤ 1099511627776) (hy : ys.length ≤ 1099511627776) :
    Calls Try.prog 21 #[va, vb] w fun e w' => e = .returned (.bool (decide (xs = ys))) ∧ G w w' := by
  obtain ⟨p, c, rfl, -, hpc⟩ := ha.at
  obtain ⟨q, d, rfl, -, hqd⟩ := hb.at
  by_cases hl : xs.length = ys.length
  · obtain ⟨n, hnx⟩ : ∃ n, n = xs.length := ⟨_, rfl⟩
    have hny : n = ys.length := by omega
    rw [← hnx] at hpc ha hx ⊢
    rw [← hny] at hqd hb ⊢
    have HX := Lib.hid hnx
    have HY := Lib.hid hny
    have HP := Lib.hid hpc
    have HQ := Lib.hid hqd
    clear hnx hny hpc hqd ha hb hl hy
    go_enter Try.func21, Try.ntmps21
    go_wp2_with fail
    go_loopw [5] (fun i wr => ∃ k : Nat, k ≤ n ∧ i = .int .i64 k ∧ Hid (xs.take k = ys.take k) ∧ G w wr) (fun i _ => n - (intOf i).toNat)
    case atStart => exact ⟨0, by omega, rfl, (rfl : xs.take 0 = ys.take 0), G.refl _⟩
    case round =>
      obtain ⟨k, hk, rfl, HT, hg⟩ := hrel
      by_cases hlt : k < n
      · obtain ⟨x, hx1⟩ : ∃ x, xs[k]? = some x := ⟨xs[k]'(by have := HX.out; omega), List.getElem?_eq_getElem _⟩
        obtain ⟨y, hy1⟩ : ∃ y, ys[k]? = some y := ⟨ys[k]'(by have := HY.out; omega), List.getElem?_eq_getElem _⟩
        obtain ⟨b1, o1, rfl, h1⟩ := HP.out (by omega)
        obtain ⟨b2, o2, rfl, h2⟩ := HQ.out (by omega)
        have c1 := hg.cell (h1 k _ (ints_get hx1))
        have c2 := hg.cell (h2 k _ (ints_get hy1))
        have HX1 := Lib.hid hx1
        have HY1 := Lib.hid hy1
        clear hx1 hy1 h1 h2
        by_cases hxy : x = y
        · have he : (x != y) = false := by simpa using hxy
          go_wp2_with fail
          go_quiet (fail)
          go_wp2_with fail
          go_roundw
          case rel => exact ⟨k + 1, by omega, by go_num, take_step HT.out HX1.out HY1.out hxy, hg.drewN _⟩
          case measure => simp [intOf]; omega
        · have he : (x != y) = true := by simpa using hxy
          have HV := Lib.hid (show decide (xs = ys) = false by simpa using take_ne_of_get HX1.out HY1.out hxy)
          go_wp2_with fail
          go_quiet (fail)
          go_wp2_with fail
          go_ret
          exact ⟨by rw [HV.out]; rfl, hg.drewN _⟩
      · have HV := Lib.hid (show decide (xs = ys) = true by simpa using take_all HT.out HX.out HY.out (by omega))
        go_wp2_with fail
        go_ret
        exact ⟨by rw [HV.out]; rfl, hg⟩
  · have HV := Lib.hid (show decide (xs = ys) = false by simp; rintro rfl; exact hl rfl)
    have hne : ((xs.length : Int) != (ys.length : Int)) = true := by simp; omega
    clear hpc hqd ha hb
    go_enter Try.func21, Try.ntmps21
    go_wp2_with fail
    go_ret
    exact ⟨by rw [HV.out]; rfl, G.refl _⟩
theorem mark_any (k i : Int) (w : World) (hk : 0 ≤ k) (hk2 : k ≤ 100) (hi : 0 ≤ i) (hi2 : i ≤ 100000000) : Calls Try.prog 35 #[.int .i64 k, .int .i64 i] w fun e w' => e = .returned (.int .i64 (1000003 * (k + 7) + i)) ∧ G w w' := by
  go_enter Try.func35, Try.ntmps35
  go_wp2
  go_ret
  exact ⟨rfl, G.refl w⟩
/-- it is written over -/
theorem overI_any (v : Value) (n base : Nat) (xs : List Value) (w : World) (hv : w.ownsRow base 3 1 v n xs) (hn : n ≤ 1000000) :
    Calls Try.prog 25 #[v] w fun e w' => (∃ u, e = .returned u) ∧ Fr (fun q => v.ownBlock = some q) w w' := by
  obtain ⟨p, c, rfl⟩ := ownsRow_shape hv
  have hcap := ownsRow_cap hv
  rcases hv.2 with ⟨h, hn0⟩ | ⟨g, cap, cur, h, h1, h2, h3, h4, h5, h6⟩
  · cases h
    go_enter Try.func25, Try.ntmps25
    go_wp2
    go_rounds 1
    go_returns
    exact ⟨⟨_, rfl⟩, Fr.refl _ _⟩
  · cases h
    have hsz : cur.size = c := by omega
    have hz := (Array.getElem?_eq_some_iff.1 h2).1
    have HS := Lib.hid hsz
    have H2 := Lib.hid h2
    unfold maxLen at h4
    clear hsz h2 h5 h6 hv
    by_cases hm : (c : Int) ≤ (n : Int) + 12
    · go_enter Try.func25, Try.ntmps25
      go_wp2
      go_loopw [3] (fun i wr => ∃ (j : Nat) (cs : Array Value), j ≤ c ∧ i = .int .i64 j ∧ Hid (wr.heap[g]? = some (.cells cs 3 (0, 0)) ∧ cs.size = c) ∧ Fr (fun q => some g = some q) w wr) (fun i _ => c - (intOf i).toNat)
      case atStart => exact ⟨0, cur, by omega, rfl, ⟨H2.out, HS.out⟩, Fr.refl _ _⟩
      case round =>
        obtain ⟨j, cs, hj, rfl, HC, hf⟩ := hrel
        by_cases hlt : j < c
        · have hfz := hf.size
          go_wp2_with fail
          refine (mark_any 2 j _ (by omega) (by omega) (by omega) (by omega)).mono ?_
          rintro e w3 ⟨rfl, hg3⟩
          have h3 : w3.heap[g]? = some (.cells cs 3 (0, 0)) := (hg3.block (by omega)).trans HC.out.1
          have hc3 : w3.cell? ⟨g, j, none⟩ = some (cs[j]'(by have := HC.out.2; omega)) := by unfold World.cell?; rw [h3]; simp
          have hf3 : w3.frozen? ⟨g, j, none⟩ = false := by unfold World.frozen?; rw [h3]; simp
          have H3 := Lib.hid h3
          clear h3
          go_wp2_with fail
          go_roundw
          case rel =>
            refine ⟨j + 1, _, by omega, by go_num, ⟨heap_setCell_at _ g j _ _ _ _ H3.out, by simp [HC.out.2]⟩, (hf.trans (hg3.fr _) (fun _ _ h => h)).setCell (.inl rfl) _⟩
          case measure => simp [intOf]; omega
        · go_wp2_with fail
          go_returns
          exact ⟨⟨_, rfl⟩, hf⟩
    · have hm2 : ¬ (c : Int) < (n : Int) + 12 := by omega
      go_enter Try.func25, Try.ntmps25
      go_wp2
      go_loopw [3] (fun i wr => ∃ (j : Nat) (cs : Array Value), j ≤ n + 12 ∧ i = .int .i64 j ∧ Hid (wr.heap[g]? = some (.cells cs 3 (0, 0)) ∧ cs.size = c) ∧ Fr (fun q => some g = some q) w wr) (fun i _ => n + 12 - (intOf i).toNat)
      case atStart => exact ⟨0, cur, by omega, rfl, ⟨H2.out, HS.out⟩, Fr.refl _ _⟩
      case round =>
        obtain ⟨j, cs, hj, rfl, HC, hf⟩ := hrel
        by_cases hlt : j < n + 12
        · have hfz := hf.size
          go_wp2_with fail
          refine (mark_any 2 j _ (by omega) (by omega) (by omega) (by omega)).mono ?_
          rintro e w3 ⟨rfl, hg3⟩
          have h3 : w3.heap[g]? = some (.cells cs 3 (0, 0)) := (hg3.block (by omega)).trans HC.out.1
          have hc3 : w3.cell? ⟨g, j, none⟩ = some (cs[j]'(by have := HC.out.2; omega)) := by unfold World.cell?; rw [h3]; simp
          have hf3 : w3.frozen? ⟨g, j, none⟩ = false := by unfold World.frozen?; rw [h3]; simp
          have H3 := Lib.hid h3
          clear h3
          go_wp2_with fail
          go_roundw
          case rel =>
            refine ⟨j + 1, _, by omega, by go_num, ⟨heap_setCell_at _ g j _ _ _ _ H3.out, by simp [HC.out.2]⟩, (hf.trans (hg3.fr _) (fun _ _ h => h)).setCell (.inl rfl) _⟩
          case measure => simp [intOf]; omega
        · go_wp2_with fail
          go_returns
          exact ⟨⟨_, rfl⟩, hf⟩
end Go.Proofs.Ytamhlflacnldfaa
