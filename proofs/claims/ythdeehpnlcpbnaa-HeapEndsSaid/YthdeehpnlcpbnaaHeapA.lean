/- items: how they stand -/
import Derived.Test.YthdeehpnlcpbnaaRd
import Derived.Test.YthdeehpnlcpbnaaReg
import Derived.Lib.Small
import Derived.Sort.QuietIn
import Derived.Deep.CutBlock
import Derived.BigQuiet
import Derived.BigRegion
import Derived.Deep.LoopGhost
import Derived.Deep.QuietTactic
namespace Go.Proofs.Ythdeehpnlcpbnaa
set_option linter.unusedVariables false
set_option linter.unusedSimpArgs false
open Go.RowKit Go.Shelf
attribute [local go_sem] Oper.semAt_some
theorem nanI_any (x : Int) (w : World) : Calls Try.prog 35 #[.int .i64 x] w fun e w' => e = .returned (.bool false) ∧ w = w' := by
  go_enter Try.func35, Try.ntmps35
  go_wp2
  go_ret
  exact ⟨by simp, rfl⟩
theorem cmpI_any (x y : Int) (w : World) : Calls Try.prog 34 #[.int .i64 x, .int .i64 y] w fun e w' => e = .returned (.int .i64 (Lib.compareInt x y)) ∧ w = w' := by
  by_cases h1 : x < y
  · have H := Lib.hid (show Lib.compareInt x y = -1 by simp [Lib.compareInt, h1])
    go_enter Try.func34, Try.ntmps34
    go_wp2_with (go_at_call 35; refine (nanI_any _ _).mono ?_; rintro e w' ⟨rfl, rfl⟩)
    go_ret
    exact ⟨by rw [H.out]; rfl, rfl⟩
  · by_cases h2 : y < x
    · have H := Lib.hid (show Lib.compareInt x y = 1 by simp [Lib.compareInt, h1, h2])
      go_enter Try.func34, Try.ntmps34
      go_wp2_with (go_at_call 35; refine (nanI_any _ _).mono ?_; rintro e w' ⟨rfl, rfl⟩)
      go_ret
      exact ⟨by rw [H.out]; rfl, rfl⟩
    · have H := Lib.hid (show Lib.compareInt x y = 0 by simp [Lib.compareInt, h1, h2])
      go_enter Try.func34, Try.ntmps34
      go_wp2_with (go_at_call 35; refine (nanI_any _ _).mono ?_; rintro e w' ⟨rfl, rfl⟩)
      go_ret
      exact ⟨by rw [H.out]; rfl, rfl⟩
def ints (l : List Int) : List Value := l.map (Value.int .i64)
theorem ints_get {ss : List Int} {k : Nat} {s : Int} (h : ss[k]? = some s) : (ints ss)[k]? = some (.int .i64 s) := by simp [ints, h]
/-- the first that is not 0 -/
def orL : List Int → Int
  | [] => 0
  | x :: xs => if x = 0 then orL xs else x
theorem or_any (xs : List Int) (v : Value) (w : World) (hv : Rdr w 1 v xs.length (ints xs)) (hn : xs.length ≤ 1000000) : Calls Try.prog 33 #[v] w fun e w' => e = .returned (.int .i64 (orL xs)) ∧ w = w' := by
  obtain ⟨p, c, rfl, -, hpc⟩ := hv.at
  obtain ⟨n, hnn⟩ : ∃ n, n = xs.length := ⟨_, rfl⟩
  rw [← hnn] at hn hpc
  simp only [← hnn]
  have HN := Lib.hid hnn
  have HC := Lib.hid hpc
  clear hnn hpc hv
  go_enter Try.func33, Try.ntmps33
  go_wp2_with fail
  go_loop [8] (fun i => ∃ k : Nat, k ≤ n ∧ i = .int .i64 k ∧ Hid (orL xs = orL (xs.drop k))) (fun i => n - (intOf i).toNat)
  case atStart => exact ⟨0, by omega, rfl, (rfl : orL xs = orL (xs.drop 0))⟩
  case round =>
    obtain ⟨k, hk, rfl, HO⟩ := hrel
    by_cases hlt : k < n
    · obtain ⟨b, o, rfl, hcell⟩ := HC.out (by omega)
      obtain ⟨x, hx⟩ : ∃ x, xs[k]? = some x := ⟨xs[k]'(by have := HN.out; omega), List.getElem?_eq_getElem _⟩
      have c1 := hcell k _ (ints_get hx)
      have HD := Lib.hid (show xs.drop k = x :: xs.drop (k + 1) by
        obtain ⟨h1, h2⟩ := List.getElem?_eq_some_iff.1 hx
        rw [← h2]; exact List.drop_eq_getElem_cons h1)
      clear hcell hx
      by_cases h0 : x = 0
      · have H1 := Lib.hid (show orL xs = orL (xs.drop (k + 1)) by rw [HO.out, HD.out, orL, if_pos h0])
        subst h0
        go_wp2_with fail
        go_round
        case rel => exact ⟨k + 1, by omega, by go_num, H1⟩
        case measure => simp [intOf]; omega
      · have H1 := Lib.hid (show orL xs = x by rw [HO.out, HD.out, orL, if_neg h0])
        go_wp2_with fail
        go_ret
        exact ⟨by rw [H1.out]; rfl, rfl⟩
    · have H1 := Lib.hid (show orL xs = 0 by rw [HO.out, List.drop_of_length_le (by have := HN.out; omega)]; rfl)
      go_wp2_with fail
      go_ret
      exact ⟨by rw [H1.out]; rfl, rfl⟩
/-- an item: its key, its value -/
abbrev Item := Int × Int
def iv (x : Item) : Value := .agg #[.int .i64 x.1, .int .i64 x.2]
/-- how two items stand -/
def icmp (a b : Item) : Int := orL [Lib.compareInt a.1 b.1, Lib.compareInt a.2 b.2]
theorem order_any (a b : Item) (w : World) : Calls Try.prog 31 #[iv a, iv b] w fun e w' => e = .returned (.int .i64 (icmp a b)) ∧ G w w' := by
  obtain ⟨ak, av⟩ := a
  obtain ⟨bk, bv⟩ := b
  have H := Lib.hid (show icmp (ak, av) (bk, bv) = orL [Lib.compareInt ak bk, Lib.compareInt av bv] from rfl)
  unfold iv
  go_enter Try.func31, Try.ntmps31
  go_upto_region 1 with fail
  have hg0 : G w ((w.alloc (.cells #[.int .i64 ak, .int .i64 av] 40)).alloc (.cells #[.int .i64 bk, .int .i64 bv] 40)) := ((G.refl w).alloc _).alloc _
  have hA := alloc_new w (.cells #[.int .i64 ak, .int .i64 av] 40)
  have hB := alloc_new (w.alloc (.cells #[.int .i64 ak, .int .i64 av] 40)) (.cells #[.int .i64 bk, .int .i64 bv] 40)
  have hA' := (((G.refl (w.alloc (.cells #[.int .i64 ak, .int .i64 av] 40))).alloc (.cells #[.int .i64 bk, .int .i64 bv] 40)).block (k := w.heap.size) (by simp)).trans hA
  simp only [World.size_alloc] at hB ⊢
  generalize ((w.alloc (.cells #[.int .i64 ak, .int .i64 av] 40)).alloc (.cells #[.int .i64 bk, .int .i64 bv] 40)) = W at hg0 hA' hB ⊢
  have ca0 : W.cell? ⟨w.heap.size, 0, none⟩ = some (.int .i64 ak) := by simp [World.cell?, hA']
  have ca1 : W.cell? ⟨w.heap.size, 1, none⟩ = some (.int .i64 av) := by simp [World.cell?, hA']
  have cb0 : W.cell? ⟨w.heap.size + 1, 0, none⟩ = some (.int .i64 bk) := by simp [World.cell?, hB]
  have cb1 : W.cell? ⟨w.heap.size + 1, 1, none⟩ = some (.int .i64 bv) := by simp [World.cell?, hB]
  clear hA hA' hB
  refine region_hl (fun w' => G W w') 99 13 (by kernel_rfl) rfl ?_
  simp only [List.replicate_succ, List.replicate_zero]
  have hs0 : (fun w' => G W w') W.drew := (G.refl W).drew
  refine hl_take_np 0 (by kernel_rfl) (by kernel_rfl) rfl (by kernel_rfl) hs0 (v := ?_) ?_ ?_
  rotate_left
  · (rintro x hx; have k1 := hx.cell ca0; have k2 := hx.cell ca1; have k3 := hx.cell cb0; have k4 := hx.cell cb1; clear hx; go_simp; try rfl)
  simp only [Act.put, List.setIfInBounds_toArray, List.set_cons_zero, List.set_cons_succ]
  refine hl_take_np 1 (by kernel_rfl) (by kernel_rfl) rfl (by kernel_rfl) hs0 (v := ?_) ?_ ?_
  rotate_left
  · (rintro x hx; have k1 := hx.cell ca0; have k2 := hx.cell ca1; have k3 := hx.cell cb0; have k4 := hx.cell cb1; clear hx; go_simp; try rfl)
  simp only [Act.put, List.setIfInBounds_toArray, List.set_cons_zero, List.set_cons_succ]
  refine hl_take_np 2 (by kernel_rfl) (by kernel_rfl) rfl (by kernel_rfl) hs0 (v := ?_) ?_ ?_
  rotate_left
  · (rintro x hx; have k1 := hx.cell ca0; have k2 := hx.cell ca1; have k3 := hx.cell cb0; have k4 := hx.cell cb1; clear hx; go_simp; try rfl)
  simp only [Act.put, List.setIfInBounds_toArray, List.set_cons_zero, List.set_cons_succ]
  refine hl_take_np 3 (by kernel_rfl) (by kernel_rfl) rfl (by kernel_rfl) hs0 (v := ?_) ?_ ?_
  rotate_left
  · (rintro x hx; have k1 := hx.cell ca0; have k2 := hx.cell ca1; have k3 := hx.cell cb0; have k4 := hx.cell cb1; clear hx; go_simp; try rfl)
  simp only [Act.put, List.setIfInBounds_toArray, List.set_cons_zero, List.set_cons_succ]
  refine hl_take_np 5 (by kernel_rfl) (by kernel_rfl) rfl (by kernel_rfl) hs0 (v := ?_) ?_ ?_
  rotate_left
  · (rintro x hx; have k1 := hx.cell ca0; have k2 := hx.cell ca1; have k3 := hx.cell cb0; have k4 := hx.cell cb1; clear hx; go_simp; try rfl)
  simp only [Act.put, List.setIfInBounds_toArray, List.set_cons_zero, List.set_cons_succ]
  refine hl_take_np 6 (by kernel_rfl) (by kernel_rfl) rfl (by kernel_rfl) hs0 (v := ?_) ?_ ?_
  rotate_left
  · (rintro x hx; have k1 := hx.cell ca0; have k2 := hx.cell ca1; have k3 := hx.cell cb0; have k4 := hx.cell cb1; clear hx; go_simp; try rfl)
  simp only [Act.put, List.setIfInBounds_toArray, List.set_cons_zero, List.set_cons_succ]
  refine hl_take_np 7 (by kernel_rfl) (by kernel_rfl) rfl (by kernel_rfl) hs0 (v := ?_) ?_ ?_
  rotate_left
  · (rintro x hx; have k1 := hx.cell ca0; have k2 := hx.cell ca1; have k3 := hx.cell cb0; have k4 := hx.cell cb1; clear hx; go_simp; try rfl)
  simp only [Act.put, List.setIfInBounds_toArray, List.set_cons_zero, List.set_cons_succ]
  refine hl_take_np 8 (by kernel_rfl) (by kernel_rfl) rfl (by kernel_rfl) hs0 (v := ?_) ?_ ?_
  rotate_left
  · (rintro x hx; have k1 := hx.cell ca0; have k2 := hx.cell ca1; have k3 := hx.cell cb0; have k4 := hx.cell cb1; clear hx; go_simp; try rfl)
  simp only [Act.put, List.setIfInBounds_toArray, List.set_cons_zero, List.set_cons_succ]
  refine hl_stepW 4 (by kernel_rfl) rfl (by kernel_rfl) ?_
  intro K hK
  go_simp
  refine (cmpI_any ak bk _).mono ?_
  rintro e w' ⟨rfl, rfl⟩
  refine hK _ _ (fun _ => hs0) ?_
  clear hK
  simp only [Act.put, List.setIfInBounds_toArray, List.set_cons_zero, List.set_cons_succ]
  refine hl_stepW 9 (by kernel_rfl) rfl (by kernel_rfl) ?_
  intro K hK
  go_simp
  refine (cmpI_any av bv _).mono ?_
  rintro e w' ⟨rfl, rfl⟩
  refine hK _ _ (fun _ => hs0) ?_
  clear hK
  simp only [Act.put, List.setIfInBounds_toArray, List.set_cons_zero, List.set_cons_succ]
  refine hl_step 10 (by kernel_rfl) rfl ?_
  go_wp2_with fail
  show _ ∧ _
  have hs1 : G W (W.alloc (.cells #[.int .i64 (Lib.compareInt ak bk), .int .i64 (Lib.compareInt av bv)] 3)).drew := ((G.refl W).alloc _).drew
  refine ⟨(by first | exact hs1 | exact fun _ => hs1), ?_⟩
  refine hl_stepW 11 (by kernel_rfl) rfl (by kernel_rfl) ?_
  intro K hK
  go_simp
  refine (or_any [Lib.compareInt ak bk, Lib.compareInt av bv] _ _ ((rdr_alloc W (ints [Lib.compareInt ak bk, Lib.compareInt av bv]) 3 (0, 0) 1 2 2 rfl).g ((G.refl _).drew)) (by simp)).mono ?_
  rintro e w' ⟨rfl, rfl⟩
  refine hK _ _ (fun _ => hs1) ?_
  clear hK
  simp only [Act.put, List.setIfInBounds_toArray, List.set_cons_zero, List.set_cons_succ]
  refine hl_take_np 12 (by kernel_rfl) (by kernel_rfl) rfl (by kernel_rfl) hs1 (v := ?_) ?_ ?_
  rotate_left
  · (rintro x hx; have k1 := hx.cell ca0; have k2 := hx.cell ca1; have k3 := hx.cell cb0; have k4 := hx.cell cb1; clear hx; go_simp; try rfl)
  simp only [Act.put, List.setIfInBounds_toArray, List.set_cons_zero, List.set_cons_succ]
  refine hl_done (by kernel_rfl) ?_ _
  refine NoPanic.normal ?_
  go_wp2_with fail
  go_ret
  exact ⟨by rw [H.out]; rfl, hg0.trans hs1⟩
end Go.Proofs.Ythdeehpnlcpbnaa
