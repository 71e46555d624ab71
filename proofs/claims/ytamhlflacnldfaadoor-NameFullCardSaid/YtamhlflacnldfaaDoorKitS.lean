/- two lists of texts, of numbers -/
import Derived.Test.YtamhlflacnldfaaDoorKitT
namespace Go.Proofs.YtamhlflacnldfaaDoor
set_option linter.unusedVariables false
set_option linter.unusedSimpArgs false
open Go.RowKit Go.Shelf
theorem take_ne_of_get {α : Type} {xs ys : List α} {k : Nat} {x y : α} (hx : xs[k]? = some x) (hy : ys[k]? = some y) (hne : x ≠ y) : xs ≠ ys := by
  rintro rfl; rw [hx] at hy; exact hne (by simpa using hy)
/-- the loop of the tests whether two lists are one -/
theorem take_step {α : Type} {xs ys : List α} {k : Nat} {x y : α} (h : xs.take k = ys.take k) (hx : xs[k]? = some x) (hy : ys[k]? = some y) (e : x = y) : xs.take (k + 1) = ys.take (k + 1) := by
  rw [List.take_add_one, List.take_add_one, h, hx, hy, e]
theorem take_all {α : Type} {xs ys : List α} {n k : Nat} (h : xs.take k = ys.take k) (hx : n = xs.length) (hy : n = ys.length) (hk : n ≤ k) : xs = ys := by
  rwa [List.take_of_length_le (by omega), List.take_of_length_le (by omega)] at h

def ints (l : List Int) : List Value := l.map (Value.int .i64)
theorem ints_get {ss : List Int} {k : Nat} {s : Int} (h : ss[k]? = some s) : (ints ss)[k]? = some (.int .i64 s) := by simp [ints, h]
theorem ints_len (ss : List Int) : (ints ss).length = ss.length := by simp [ints]
theorem sameI_any (xs ys : List Int) (va vb : Value) (w : World) (ha : Rdr w 1 va xs.length (ints xs)) (hb : Rdr w 1 vb ys.length (ints ys)) (hx : xs.length ≤ 1099511627776) (hy : ys.length ≤ 1099511627776) :
    Calls Tryd.prog 9 #[va, vb] w fun e w' => e = .returned (.bool (decide (xs = ys))) ∧ G w w' := by
  obtain ⟨p, c, rfl, -, hpc⟩ := ha.at
  obtain ⟨q, d, rfl, -, hqd⟩ := hb.at
  by_cases hl : xs.length = ys.length
  · obtain ⟨n, hnx⟩ : ∃ n, n = xs.length := ⟨_, rfl⟩
    have hny : n = ys.length := by omega
    rw [← hnx] at hpc ha hx ⊢
    rw [← hny] at hqd hb ⊢
    have HX := Lib.hid hnx
    have HY := Lib.hid hny
    have HP := Lib.hid hpc
    have HQ := Lib.hid hqd
    clear hnx hny hpc hqd ha hb hl hy
    go_enter Tryd.func9, Tryd.ntmps9
    go_wp2_with fail
    go_loopw [5] (fun i wr => ∃ k : Nat, k ≤ n ∧ i = .int .i64 k ∧ Hid (xs.take k = ys.take k) ∧ G w wr) (fun i _ => n - (intOf i).toNat)
    case atStart => exact ⟨0, by omega, rfl, (rfl : xs.take 0 = ys.take 0), G.refl _⟩
    case round =>
      obtain ⟨k, hk, rfl, HT, hg⟩ := hrel
      by_cases hlt : k < n
      · obtain ⟨x, hx1⟩ : ∃ x, xs[k]? = some x := ⟨xs[k]'(by have := HX.out; omega), List.getElem?_eq_getElem _⟩
        obtain ⟨y, hy1⟩ : ∃ y, ys[k]? = some y := ⟨ys[k]'(by have := HY.out; omega), List.getElem?_eq_getElem _⟩
        obtain ⟨b1, o1, rfl, h1⟩ := HP.out (by omega)
        obtain ⟨b2, o2, rfl, h2⟩ := HQ.out (by omega)
        have c1 := hg.cell (h1 k _ (ints_get hx1))
        have c2 := hg.cell (h2 k _ (ints_get hy1))
        have HX1 := Lib.hid hx1
        have HY1 := Lib.hid hy1
        clear hx1 hy1 h1 h2
        by_cases hxy : x = y
        · have he : (x != y) = false := by simpa using hxy
          go_wp2_with fail
          go_quiet (fail)
          go_wp2_with fail
          go_roundw
          case rel => exact ⟨k + 1, by omega, by go_num, take_step HT.out HX1.out HY1.out hxy, hg.drewN _⟩
          case measure => simp [intOf]; omega
        · have he : (x != y) = true := by simpa using hxy
          have HV := Lib.hid (show decide (xs = ys) = false by simpa using take_ne_of_get HX1.out HY1.out hxy)
          go_wp2_with fail
          go_quiet (fail)
          go_wp2_with fail
          go_ret
          exact ⟨by rw [HV.out]; rfl, hg.drewN _⟩
      · have HV := Lib.hid (show decide (xs = ys) = true by simpa using take_all HT.out HX.out HY.out (by omega))
        go_wp2_with fail
        go_ret
        exact ⟨by rw [HV.out]; rfl, hg⟩
  · have HV := Lib.hid (show decide (xs = ys) = false by simp; rintro rfl; exact hl rfl)
    have hne : ((xs.length : Int) != (ys.length : Int)) = true := by simp; omega
    clear hpc hqd ha hb
    go_enter Tryd.func9, Tryd.ntmps9
    go_wp2_with fail
    go_ret
    exact ⟨by rw [HV.out]; rfl, G.refl _⟩
end Go.Proofs.YtamhlflacnldfaaDoor
