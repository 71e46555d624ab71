/- laid together: EdgeS -/
import Derived.Test.YthhmmjpgefinmaaEdgeQ
import Derived.Lib.Small
import Derived.Lib.Bytealg
/- edges: how two stand: the program's -/
namespace Go.Proofs.Ythhmmjpgefinmaa
set_option linter.unusedVariables false
set_option linter.unusedSimpArgs false
open Go.RowKit Go.Shelf
attribute [local go_sem] Oper.semAt_some

theorem nanI_any (x : Int) (w : World) : Calls Try.prog 88 #[.int .i64 x] w fun e w' => e = .returned (.bool false) ∧ w = w' := by
  go_enter Try.func88, Try.ntmps88
  go_wp2
  go_ret
  exact ⟨by simp, rfl⟩
theorem nanS_any (x : ByteArray) (w : World) : Calls Try.prog 89 #[.string x] w fun e w' => e = .returned (.bool false) ∧ w = w' := by
  go_enter Try.func89, Try.ntmps89
  go_wp2
  go_ret
  exact ⟨by simp, rfl⟩
theorem cmpI_any (x y : Int) (w : World) : Calls Try.prog 75 #[.int .i64 x, .int .i64 y] w fun e w' => e = .returned (.int .i64 (Lib.compareInt x y)) ∧ w = w' := by
  by_cases h1 : x < y
  · have H := Lib.hid (show Lib.compareInt x y = -1 by simp [Lib.compareInt, h1])
    go_enter Try.func75, Try.ntmps75
    go_wp2_with (go_at_call 88; refine (nanI_any _ _).mono ?_; rintro e w' ⟨rfl, rfl⟩)
    go_ret
    exact ⟨by rw [H.out]; rfl, rfl⟩
  · by_cases h2 : y < x
    · have H := Lib.hid (show Lib.compareInt x y = 1 by simp [Lib.compareInt, h1, h2])
      go_enter Try.func75, Try.ntmps75
      go_wp2_with (go_at_call 88; refine (nanI_any _ _).mono ?_; rintro e w' ⟨rfl, rfl⟩)
      go_ret
      exact ⟨by rw [H.out]; rfl, rfl⟩
    · have H := Lib.hid (show Lib.compareInt x y = 0 by simp [Lib.compareInt, h1, h2])
      go_enter Try.func75, Try.ntmps75
      go_wp2_with (go_at_call 88; refine (nanI_any _ _).mono ?_; rintro e w' ⟨rfl, rfl⟩)
      go_ret
      exact ⟨by rw [H.out]; rfl, rfl⟩
/-- how two texts stand -/
def cmpB (x y : ByteArray) : Int := if Op.bytesLess x.toList y.toList = true then -1 else if x = y then 0 else 1
theorem cmpS_any (x y : ByteArray) (w : World) : Calls Try.prog 76 #[.string x, .string y] w fun e w' => e = .returned (.int .i64 (cmpB x y)) ∧ w = w' := by
  cases h1 : Op.bytesLess x.toList y.toList
  · by_cases h2 : x = y
    · have H := Lib.hid (show cmpB x y = 0 by rw [cmpB, h1]; simp [h2])
      have h3 : (x.toList == y.toList) = true := by rw [str_beq]; simpa using h2
      clear h2
      go_enter Try.func76, Try.ntmps76
      go_wp2_with (go_at_call 89; refine (nanS_any _ _).mono ?_; rintro e w' ⟨rfl, rfl⟩)
      go_ret
      exact ⟨by rw [H.out]; rfl, rfl⟩
    · have H := Lib.hid (show cmpB x y = 1 by simp [cmpB, h1, h2])
      have h3 : (x.toList == y.toList) = false := by rw [str_beq]; simpa using h2
      clear h2
      go_enter Try.func76, Try.ntmps76
      go_wp2_with (go_at_call 89; refine (nanS_any _ _).mono ?_; rintro e w' ⟨rfl, rfl⟩)
      go_ret
      exact ⟨by rw [H.out]; rfl, rfl⟩
  · have H := Lib.hid (show cmpB x y = -1 by simp [cmpB, h1])
    go_enter Try.func76, Try.ntmps76
    go_wp2_with (go_at_call 89; refine (nanS_any _ _).mono ?_; rintro e w' ⟨rfl, rfl⟩)
    go_ret
    exact ⟨by rw [H.out]; rfl, rfl⟩
def ints (l : List Int) : List Value := l.map (Value.int .i64)
theorem ints_get {ss : List Int} {k : Nat} {s : Int} (h : ss[k]? = some s) : (ints ss)[k]? = some (.int .i64 s) := by simp [ints, h]
/-- the first that is not 0 -/
def orL : List Int → Int
  | [] => 0
  | x :: xs => if x = 0 then orL xs else x
theorem or_any (xs : List Int) (v : Value) (w : World) (hv : Rdr w 1 v xs.length (ints xs)) (hn : xs.length ≤ 1000000) : Calls Try.prog 74 #[v] w fun e w' => e = .returned (.int .i64 (orL xs)) ∧ w = w' := by
  obtain ⟨p, c, rfl, -, hpc⟩ := hv.at
  obtain ⟨n, hnn⟩ : ∃ n, n = xs.length := ⟨_, rfl⟩
  rw [← hnn] at hn hpc
  simp only [← hnn]
  have HN := Lib.hid hnn
  have HC := Lib.hid hpc
  clear hnn hpc hv
  go_enter Try.func74, Try.ntmps74
  go_wp2_with fail
  go_loop [8] (fun i => ∃ k : Nat, k ≤ n ∧ i = .int .i64 k ∧ Hid (orL xs = orL (xs.drop k))) (fun i => n - (intOf i).toNat)
  case atStart => exact ⟨0, by omega, rfl, (rfl : orL xs = orL (xs.drop 0))⟩
  case round =>
    obtain ⟨k, hk, rfl, HO⟩ := hrel
    by_cases hlt : k < n
    · obtain ⟨b, o, rfl, hcell⟩ := HC.out (by omega)
      obtain ⟨x, hx⟩ : ∃ x, xs[k]? = some x := ⟨xs[k]'(by have := HN.out; omega), List.getElem?_eq_getElem _⟩
      have c1 := hcell k _ (ints_get hx)
      have HD := Lib.hid (show xs.drop k = x :: xs.drop (k + 1) by
        obtain ⟨h1, h2⟩ := List.getElem?_eq_some_iff.1 hx
        rw [← h2]; exact List.drop_eq_getElem_cons h1)
      clear hcell hx
      by_cases h0 : x = 0
      · have H1 := Lib.hid (show orL xs = orL (xs.drop (k + 1)) by rw [HO.out, HD.out, orL, if_pos h0])
        subst h0
        go_wp2_with fail
        go_round
        case rel => exact ⟨k + 1, by omega, by go_num, H1⟩
        case measure => simp [intOf]; omega
      · have H1 := Lib.hid (show orL xs = x by rw [HO.out, HD.out, orL, if_neg h0])
        go_wp2_with fail
        go_ret
        exact ⟨by rw [H1.out]; rfl, rfl⟩
    · have H1 := Lib.hid (show orL xs = 0 by rw [HO.out, List.drop_of_length_le (by have := HN.out; omega)]; rfl)
      go_wp2_with fail
      go_ret
      exact ⟨by rw [H1.out]; rfl, rfl⟩
/-- how two edges stand -/
def ecmp (a b : Edg) : Int := orL [Lib.compareInt a.tm b.tm, cmpB a.f b.f, cmpB a.t b.t, cmpB a.l b.l]
/-- an edge whose props lie in a slice -/
def IsE (E : Edg) : Prop := ∃ p n c, E.v = .slice p n c
theorem EdgAt.isE {W : World} {E : Edg} (h : EdgAt W E) : IsE E := by
  obtain ⟨-, p, c, e, -⟩ := h.rdr; exact ⟨p, _, c, e⟩
theorem boxes (w : World) (c d : Array Value) (t : TypeId) : G w ((w.alloc (.cells c t)).alloc (.cells d t)) ∧ ((w.alloc (.cells c t)).alloc (.cells d t)).heap[w.heap.size]? = some (.cells c t (0, 0)) ∧ ((w.alloc (.cells c t)).alloc (.cells d t)).heap[w.heap.size + 1]? = some (.cells d t (0, 0)) := by
  refine ⟨((G.refl w).alloc _).alloc _, (((G.refl _).alloc _).block (by rw [World.size_alloc]; omega)).trans (alloc_new w _), ?_⟩
  have := alloc_new (w.alloc (.cells c t)) (.cells d t)
  rw [World.size_alloc] at this; exact this
set_option maxHeartbeats 1000000 in
theorem ecmp_any (A B : Edg) (w : World) (hA : IsE A) (hB : IsE B) : Calls Try.prog 62 #[ev A, ev B] w fun e w' => e = .returned (.int .i64 (ecmp A B)) ∧ G w w' := by
  obtain ⟨fa, ta, la, ma, va, psa⟩ := A
  obtain ⟨fb, tb, lb, mb, vb, psb⟩ := B
  obtain ⟨pa, na, qa, h1⟩ := hA
  obtain ⟨pb, nb, qb, h2⟩ := hB
  simp only at h1 h2
  subst h1 h2
  have H := Lib.hid (show ecmp ⟨fa, ta, la, ma, .slice pa na qa, psa⟩ ⟨fb, tb, lb, mb, .slice pb nb qb, psb⟩ = orL [Lib.compareInt ma mb, cmpB fa fb, cmpB ta tb, cmpB la lb] from rfl)
  unfold ev
  simp only
  have HBX := Lib.hid (boxes w #[.string fa, .string ta, .string la, .int .i64 ma, .slice pa na qa] #[.string fb, .string tb, .string lb, .int .i64 mb, .slice pb nb qb] 51)
  go_enter Try.func62, Try.ntmps62
  go_upto_region 1 with fail
  obtain ⟨W, hW⟩ : ∃ X : World, X = (w.alloc (.cells #[.string fa, .string ta, .string la, .int .i64 ma, .slice pa na qa] 51)).alloc (.cells #[.string fb, .string tb, .string lb, .int .i64 mb, .slice pb nb qb] 51) := ⟨_, rfl⟩
  rw [← hW]
  rw [← hW] at HBX
  clear hW
  obtain ⟨hg0, hbA, hbB⟩ := HBX.out
  obtain ⟨a0, a1, a2, a3, -⟩ := cells5 hbA
  obtain ⟨b0, b1, b2, b3, -⟩ := cells5 hbB
  clear hbA hbB HBX
  obtain ⟨WD, hWD⟩ : ∃ WD : World, WD = W.drew := ⟨_, rfl⟩
  have hsD : G W WD := by rw [hWD]; exact (G.refl W).drew
  refine region_hlW (fun w' => G W w') 99 23 (by kernel_rfl) rfl ?_
  intro Q0 HQ0
  simp only [List.replicate_succ, List.replicate_zero]
  rw [← hWD]
  clear hWD
  refine hl_take_np 0 (by kernel_rfl) (by kernel_rfl) rfl (by kernel_rfl) hsD (v := ?_) ?_ ?_
  rotate_left
  · (rintro x hx; have k0 := hx.cell a0; have j0 := hx.cell b0; have k1 := hx.cell a1; have j1 := hx.cell b1; have k2 := hx.cell a2; have j2 := hx.cell b2; have k3 := hx.cell a3; have j3 := hx.cell b3; clear hx; go_simp; try rfl)
  simp only [Act.put, List.setIfInBounds_toArray, List.set_cons_zero, List.set_cons_succ]
  refine hl_take_np 1 (by kernel_rfl) (by kernel_rfl) rfl (by kernel_rfl) hsD (v := ?_) ?_ ?_
  rotate_left
  · (rintro x hx; have k0 := hx.cell a0; have j0 := hx.cell b0; have k1 := hx.cell a1; have j1 := hx.cell b1; have k2 := hx.cell a2; have j2 := hx.cell b2; have k3 := hx.cell a3; have j3 := hx.cell b3; clear hx; go_simp; try rfl)
  simp only [Act.put, List.setIfInBounds_toArray, List.set_cons_zero, List.set_cons_succ]
  refine hl_take_np 2 (by kernel_rfl) (by kernel_rfl) rfl (by kernel_rfl) hsD (v := ?_) ?_ ?_
  rotate_left
  · (rintro x hx; have k0 := hx.cell a0; have j0 := hx.cell b0; have k1 := hx.cell a1; have j1 := hx.cell b1; have k2 := hx.cell a2; have j2 := hx.cell b2; have k3 := hx.cell a3; have j3 := hx.cell b3; clear hx; go_simp; try rfl)
  simp only [Act.put, List.setIfInBounds_toArray, List.set_cons_zero, List.set_cons_succ]
  refine hl_take_np 3 (by kernel_rfl) (by kernel_rfl) rfl (by kernel_rfl) hsD (v := ?_) ?_ ?_
  rotate_left
  · (rintro x hx; have k0 := hx.cell a0; have j0 := hx.cell b0; have k1 := hx.cell a1; have j1 := hx.cell b1; have k2 := hx.cell a2; have j2 := hx.cell b2; have k3 := hx.cell a3; have j3 := hx.cell b3; clear hx; go_simp; try rfl)
  simp only [Act.put, List.setIfInBounds_toArray, List.set_cons_zero, List.set_cons_succ]
  refine hl_take_np 5 (by kernel_rfl) (by kernel_rfl) rfl (by kernel_rfl) hsD (v := ?_) ?_ ?_
  rotate_left
  · (rintro x hx; have k0 := hx.cell a0; have j0 := hx.cell b0; have k1 := hx.cell a1; have j1 := hx.cell b1; have k2 := hx.cell a2; have j2 := hx.cell b2; have k3 := hx.cell a3; have j3 := hx.cell b3; clear hx; go_simp; try rfl)
  simp only [Act.put, List.setIfInBounds_toArray, List.set_cons_zero, List.set_cons_succ]
  refine hl_take_np 6 (by kernel_rfl) (by kernel_rfl) rfl (by kernel_rfl) hsD (v := ?_) ?_ ?_
  rotate_left
  · (rintro x hx; have k0 := hx.cell a0; have j0 := hx.cell b0; have k1 := hx.cell a1; have j1 := hx.cell b1; have k2 := hx.cell a2; have j2 := hx.cell b2; have k3 := hx.cell a3; have j3 := hx.cell b3; clear hx; go_simp; try rfl)
  simp only [Act.put, List.setIfInBounds_toArray, List.set_cons_zero, List.set_cons_succ]
  refine hl_take_np 7 (by kernel_rfl) (by kernel_rfl) rfl (by kernel_rfl) hsD (v := ?_) ?_ ?_
  rotate_left
  · (rintro x hx; have k0 := hx.cell a0; have j0 := hx.cell b0; have k1 := hx.cell a1; have j1 := hx.cell b1; have k2 := hx.cell a2; have j2 := hx.cell b2; have k3 := hx.cell a3; have j3 := hx.cell b3; clear hx; go_simp; try rfl)
  simp only [Act.put, List.setIfInBounds_toArray, List.set_cons_zero, List.set_cons_succ]
  refine hl_take_np 8 (by kernel_rfl) (by kernel_rfl) rfl (by kernel_rfl) hsD (v := ?_) ?_ ?_
  rotate_left
  · (rintro x hx; have k0 := hx.cell a0; have j0 := hx.cell b0; have k1 := hx.cell a1; have j1 := hx.cell b1; have k2 := hx.cell a2; have j2 := hx.cell b2; have k3 := hx.cell a3; have j3 := hx.cell b3; clear hx; go_simp; try rfl)
  simp only [Act.put, List.setIfInBounds_toArray, List.set_cons_zero, List.set_cons_succ]
  refine hl_take_np 10 (by kernel_rfl) (by kernel_rfl) rfl (by kernel_rfl) hsD (v := ?_) ?_ ?_
  rotate_left
  · (rintro x hx; have k0 := hx.cell a0; have j0 := hx.cell b0; have k1 := hx.cell a1; have j1 := hx.cell b1; have k2 := hx.cell a2; have j2 := hx.cell b2; have k3 := hx.cell a3; have j3 := hx.cell b3; clear hx; go_simp; try rfl)
  simp only [Act.put, List.setIfInBounds_toArray, List.set_cons_zero, List.set_cons_succ]
  refine hl_take_np 11 (by kernel_rfl) (by kernel_rfl) rfl (by kernel_rfl) hsD (v := ?_) ?_ ?_
  rotate_left
  · (rintro x hx; have k0 := hx.cell a0; have j0 := hx.cell b0; have k1 := hx.cell a1; have j1 := hx.cell b1; have k2 := hx.cell a2; have j2 := hx.cell b2; have k3 := hx.cell a3; have j3 := hx.cell b3; clear hx; go_simp; try rfl)
  simp only [Act.put, List.setIfInBounds_toArray, List.set_cons_zero, List.set_cons_succ]
  refine hl_take_np 12 (by kernel_rfl) (by kernel_rfl) rfl (by kernel_rfl) hsD (v := ?_) ?_ ?_
  rotate_left
  · (rintro x hx; have k0 := hx.cell a0; have j0 := hx.cell b0; have k1 := hx.cell a1; have j1 := hx.cell b1; have k2 := hx.cell a2; have j2 := hx.cell b2; have k3 := hx.cell a3; have j3 := hx.cell b3; clear hx; go_simp; try rfl)
  simp only [Act.put, List.setIfInBounds_toArray, List.set_cons_zero, List.set_cons_succ]
  refine hl_take_np 13 (by kernel_rfl) (by kernel_rfl) rfl (by kernel_rfl) hsD (v := ?_) ?_ ?_
  rotate_left
  · (rintro x hx; have k0 := hx.cell a0; have j0 := hx.cell b0; have k1 := hx.cell a1; have j1 := hx.cell b1; have k2 := hx.cell a2; have j2 := hx.cell b2; have k3 := hx.cell a3; have j3 := hx.cell b3; clear hx; go_simp; try rfl)
  simp only [Act.put, List.setIfInBounds_toArray, List.set_cons_zero, List.set_cons_succ]
  refine hl_take_np 15 (by kernel_rfl) (by kernel_rfl) rfl (by kernel_rfl) hsD (v := ?_) ?_ ?_
  rotate_left
  · (rintro x hx; have k0 := hx.cell a0; have j0 := hx.cell b0; have k1 := hx.cell a1; have j1 := hx.cell b1; have k2 := hx.cell a2; have j2 := hx.cell b2; have k3 := hx.cell a3; have j3 := hx.cell b3; clear hx; go_simp; try rfl)
  simp only [Act.put, List.setIfInBounds_toArray, List.set_cons_zero, List.set_cons_succ]
  refine hl_take_np 16 (by kernel_rfl) (by kernel_rfl) rfl (by kernel_rfl) hsD (v := ?_) ?_ ?_
  rotate_left
  · (rintro x hx; have k0 := hx.cell a0; have j0 := hx.cell b0; have k1 := hx.cell a1; have j1 := hx.cell b1; have k2 := hx.cell a2; have j2 := hx.cell b2; have k3 := hx.cell a3; have j3 := hx.cell b3; clear hx; go_simp; try rfl)
  simp only [Act.put, List.setIfInBounds_toArray, List.set_cons_zero, List.set_cons_succ]
  refine hl_take_np 17 (by kernel_rfl) (by kernel_rfl) rfl (by kernel_rfl) hsD (v := ?_) ?_ ?_
  rotate_left
  · (rintro x hx; have k0 := hx.cell a0; have j0 := hx.cell b0; have k1 := hx.cell a1; have j1 := hx.cell b1; have k2 := hx.cell a2; have j2 := hx.cell b2; have k3 := hx.cell a3; have j3 := hx.cell b3; clear hx; go_simp; try rfl)
  simp only [Act.put, List.setIfInBounds_toArray, List.set_cons_zero, List.set_cons_succ]
  refine hl_take_np 18 (by kernel_rfl) (by kernel_rfl) rfl (by kernel_rfl) hsD (v := ?_) ?_ ?_
  rotate_left
  · (rintro x hx; have k0 := hx.cell a0; have j0 := hx.cell b0; have k1 := hx.cell a1; have j1 := hx.cell b1; have k2 := hx.cell a2; have j2 := hx.cell b2; have k3 := hx.cell a3; have j3 := hx.cell b3; clear hx; go_simp; try rfl)
  simp only [Act.put, List.setIfInBounds_toArray, List.set_cons_zero, List.set_cons_succ]
  refine hl_stepW 4 (by kernel_rfl) rfl (by kernel_rfl) ?_
  intro K hK
  go_simp
  refine (cmpI_any ma mb WD).mono ?_
  rintro e w' ⟨rfl, hw⟩
  rw [← hw]
  refine hK _ _ (fun _ => hsD) ?_
  clear hK K hw
  simp only [Act.put, List.setIfInBounds_toArray, List.set_cons_zero, List.set_cons_succ]
  refine hl_stepW 9 (by kernel_rfl) rfl (by kernel_rfl) ?_
  intro K hK
  go_simp
  refine (cmpS_any fa fb WD).mono ?_
  rintro e w' ⟨rfl, hw⟩
  rw [← hw]
  refine hK _ _ (fun _ => hsD) ?_
  clear hK K hw
  simp only [Act.put, List.setIfInBounds_toArray, List.set_cons_zero, List.set_cons_succ]
  refine hl_stepW 14 (by kernel_rfl) rfl (by kernel_rfl) ?_
  intro K hK
  go_simp
  refine (cmpS_any ta tb WD).mono ?_
  rintro e w' ⟨rfl, hw⟩
  rw [← hw]
  refine hK _ _ (fun _ => hsD) ?_
  clear hK K hw
  simp only [Act.put, List.setIfInBounds_toArray, List.set_cons_zero, List.set_cons_succ]
  refine hl_stepW 19 (by kernel_rfl) rfl (by kernel_rfl) ?_
  intro K hK
  go_simp
  refine (cmpS_any la lb WD).mono ?_
  rintro e w' ⟨rfl, hw⟩
  rw [← hw]
  refine hK _ _ (fun _ => hsD) ?_
  clear hK K hw
  simp only [Act.put, List.setIfInBounds_toArray, List.set_cons_zero, List.set_cons_succ]
  have hs1 : G W (WD.alloc (.cells #[.int .i64 (Lib.compareInt ma mb), .int .i64 (cmpB fa fb), .int .i64 (cmpB ta tb), .int .i64 (cmpB la lb)] 3)) := hsD.alloc _
  refine hl_stepW 20 (by kernel_rfl) rfl (by kernel_rfl) ?_
  intro K hK
  go_simp
  refine hK _ _ (fun _ => hs1) ?_
  clear hK K
  simp only [Act.put, List.setIfInBounds_toArray, List.set_cons_zero, List.set_cons_succ]
  refine hl_stepW 21 (by kernel_rfl) rfl (by kernel_rfl) ?_
  intro K hK
  go_simp
  refine (or_any [Lib.compareInt ma mb, cmpB fa fb, cmpB ta tb, cmpB la lb] _ _ (rdr_alloc WD (ints [Lib.compareInt ma mb, cmpB fa fb, cmpB ta tb, cmpB la lb]) 3 (0, 0) 1 4 4 rfl) (by simp)).mono ?_
  rintro e w' ⟨rfl, rfl⟩
  refine hK _ _ (fun _ => hs1) ?_
  clear hK K
  simp only [Act.put, List.setIfInBounds_toArray, List.set_cons_zero, List.set_cons_succ]
  refine hl_take_np 22 (by kernel_rfl) (by kernel_rfl) rfl (by kernel_rfl) hs1 (v := ?_) ?_ ?_
  rotate_left
  · (rintro x hx; clear hx; go_simp; try rfl)
  simp only [Act.put, List.setIfInBounds_toArray, List.set_cons_zero, List.set_cons_succ]
  refine hl_done (by kernel_rfl) ?_ _
  refine NoPanic.normal (HQ0.out _ _ ?_)
  clear HQ0
  go_wp2_with fail
  go_ret
  exact ⟨by rw [H.out]; rfl, hg0.trans hs1⟩
def likeB (a b : Edg) : Bool := decide (ecmp a b = 0)
end Go.Proofs.Ythhmmjpgefinmaa
