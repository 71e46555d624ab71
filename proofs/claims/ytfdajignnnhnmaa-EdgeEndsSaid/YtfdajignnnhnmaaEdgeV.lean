/- edges: an edge as bytes: the document's -/
import Derived.Test.YtfdajignnnhnmaaEdgeJ
import Derived.Laws.OwnMore
namespace Go.Proofs.Ytfdajignnnhnmaa
set_option linter.unusedVariables false
set_option linter.unusedSimpArgs false
open Go.RowKit Go.Shelf
attribute [local go_sem] Oper.semAt_some

theorem rtextB_any (s : ByteArray) (w : World) (hs : s.size ≤ 1099511627776) : Calls Try.prog 53 #[.string s] w fun e w' => ∃ v, e = .returned v ∧ w'.ownsRow w.heap.size 5 1 v (1 + s.size) (bys (textB s)) ∧ G w w' := by
  obtain ⟨i0, hi, hz0, hz1, hz2⟩ := info_parts infoB
  go_enter Try.func53, Try.ntmps53
  go_wp2_with (at_builtin; refine Lib.wpList_append_own_string _ rfl _ _ 22 9 rfl w.heap.size 5 i0 Try.underlying22 Try.underlying9 hi hz0 hz1 hz2 (.slice (some ⟨w.heap.size, 0, none⟩) 1 1) 1 [.int .u8 ((s.size : Int) % 256)] rfl (owns_lit w _ _ 1 rfl (by omega)) s rfl (by unfold maxLen; omega) (by omega) (by simp) ?_; intro v w1 hown1 hgrow1 hn1)
  go_ret
  exact ⟨_, rfl, by rw [textB_bys]; exact hown1, ((G.refl w).alloc _).grown hgrow1 (fun q h => by cases h; exact Nat.le_refl _)⟩
/-- the k-th byte of a number, from the greatest on -/
def nb (n : Int) : Nat → List UInt8
  | 0 => []
  | 1 => [b8 (n / 1099511627776)]
  | 2 => [b8 (n / 1099511627776), b8 (n / 4294967296)]
  | 3 => [b8 (n / 1099511627776), b8 (n / 4294967296), b8 (n / 16777216)]
  | 4 => [b8 (n / 1099511627776), b8 (n / 4294967296), b8 (n / 16777216), b8 (n / 65536)]
  | 5 => [b8 (n / 1099511627776), b8 (n / 4294967296), b8 (n / 16777216), b8 (n / 65536), b8 (n / 256)]
  | _ => numB n
theorem nb_succ (n : Int) : ∀ j : Nat, j < 6 → nb n (j + 1) = nb n j ++ [b8 (n / 2 ^ (8 * (5 - j)))]
  | 0, _ => by simp [nb]
  | 1, _ => by simp [nb]
  | 2, _ => by simp [nb]
  | 3, _ => by simp [nb]
  | 4, _ => by simp [nb]
  | 5, _ => by simp [nb, numB]
  | j + 6, h => by omega
theorem nb_len (n : Int) : ∀ j : Nat, j ≤ 6 → (nb n j).length = j
  | 0, _ => rfl
  | 1, _ => rfl
  | 2, _ => rfl
  | 3, _ => rfl
  | 4, _ => rfl
  | 5, _ => rfl
  | 6, _ => rfl
  | j + 7, h => by omega
theorem rnumB_any (n : Int) (w : World) (h0 : 0 ≤ n) (h1 : n ≤ 1125899906842624) : Calls Try.prog 54 #[.int .i64 n] w fun e w' => ∃ v, e = .returned v ∧ w'.ownsRow w.heap.size 5 1 v 6 (bys (numB n)) ∧ G w w' := by
  obtain ⟨i0, hi, hz0, hz1, hz2⟩ := info_parts infoB
  go_enter Try.func54, Try.ntmps54
  go_wp2_with fail
  go_loopw [3, 4] (fun x i wr => ∃ (k : Nat) (p : Option Addr) (c : Nat), k ≤ 6 ∧ i = .int .i64 (5 - (k : Int)) ∧ x = .slice p k c ∧ wr.ownsRow w.heap.size 5 1 (.slice p k c) k (bys (nb n k)) ∧ G w wr) (fun _ i _ => (intOf i + 1).toNat)
  case atStart => exact ⟨0, none, 0, by omega, rfl, rfl, World.ownsRow_nil _ _ _ _, G.refl w⟩
  case round =>
    obtain ⟨k, p, c, hk, rfl, rfl, hown, hg⟩ := hrel
    rcases (by omega : k = 0 ∨ k = 1 ∨ k = 2 ∨ k = 3 ∨ k = 4 ∨ k = 5 ∨ k = 6) with rfl | rfl | rfl | rfl | rfl | rfl | rfl
    · have HO := Lib.hid hown
      have hgz := hg.size
      clear hown
      go_wp2_with (at_builtin; go_loud (refine wpList_append2 _ rfl _ _ 22 rfl w.heap.size 5 i0 (.int .u8 0) 1 1 Try.underlying22 hi hz0 hz1 hz2 rfl (by decide) (.slice p 0 c) 0 (bys (nb n 0)) rfl (((G.refl wr).alloc _).ownsRow HO.out) ⟨wr.heap.size, 0, none⟩ 1 1 [.int .u8 (n / 1099511627776 % 256)] rfl rfl (cell_one_new _ _ _) (by simp [Value.oneCell']) (by unfold maxLen; omega) (by omega) (by simp; omega) ?_); intro v' w7 hown7 hgrow7 hnil7 hat7; obtain ⟨p7, c7, rfl⟩ := ownsRow_shape hown7; have hG7 : G w w7 := (hg.alloc _).grown hgrow7 (fun k h => (HO.out.lt k h).1); have H7 := Lib.hid hown7; clear hgrow7 hnil7 hat7 hown7)
      go_roundw
      case rel => exact ⟨1, p7, c7, by omega, rfl, rfl, by have := H7.out; simpa [bys, nb, numB, b8_int] using this, hG7⟩
      case measure => simp [intOf]
    · have HO := Lib.hid hown
      have hgz := hg.size
      clear hown
      go_wp2_with (at_builtin; go_loud (refine wpList_append2 _ rfl _ _ 22 rfl w.heap.size 5 i0 (.int .u8 0) 1 1 Try.underlying22 hi hz0 hz1 hz2 rfl (by decide) (.slice p 1 c) 1 (bys (nb n 1)) rfl (((G.refl wr).alloc _).ownsRow HO.out) ⟨wr.heap.size, 0, none⟩ 1 1 [.int .u8 (n / 4294967296 % 256)] rfl rfl (cell_one_new _ _ _) (by simp [Value.oneCell']) (by unfold maxLen; omega) (by omega) (by simp; omega) ?_); intro v' w7 hown7 hgrow7 hnil7 hat7; obtain ⟨p7, c7, rfl⟩ := ownsRow_shape hown7; have hG7 : G w w7 := (hg.alloc _).grown hgrow7 (fun k h => (HO.out.lt k h).1); have H7 := Lib.hid hown7; clear hgrow7 hnil7 hat7 hown7)
      go_roundw
      case rel => exact ⟨2, p7, c7, by omega, rfl, rfl, by have := H7.out; simpa [bys, nb, numB, b8_int] using this, hG7⟩
      case measure => simp [intOf]
    · have HO := Lib.hid hown
      have hgz := hg.size
      clear hown
      go_wp2_with (at_builtin; go_loud (refine wpList_append2 _ rfl _ _ 22 rfl w.heap.size 5 i0 (.int .u8 0) 1 1 Try.underlying22 hi hz0 hz1 hz2 rfl (by decide) (.slice p 2 c) 2 (bys (nb n 2)) rfl (((G.refl wr).alloc _).ownsRow HO.out) ⟨wr.heap.size, 0, none⟩ 1 1 [.int .u8 (n / 16777216 % 256)] rfl rfl (cell_one_new _ _ _) (by simp [Value.oneCell']) (by unfold maxLen; omega) (by omega) (by simp; omega) ?_); intro v' w7 hown7 hgrow7 hnil7 hat7; obtain ⟨p7, c7, rfl⟩ := ownsRow_shape hown7; have hG7 : G w w7 := (hg.alloc _).grown hgrow7 (fun k h => (HO.out.lt k h).1); have H7 := Lib.hid hown7; clear hgrow7 hnil7 hat7 hown7)
      go_roundw
      case rel => exact ⟨3, p7, c7, by omega, rfl, rfl, by have := H7.out; simpa [bys, nb, numB, b8_int] using this, hG7⟩
      case measure => simp [intOf]
    · have HO := Lib.hid hown
      have hgz := hg.size
      clear hown
      go_wp2_with (at_builtin; go_loud (refine wpList_append2 _ rfl _ _ 22 rfl w.heap.size 5 i0 (.int .u8 0) 1 1 Try.underlying22 hi hz0 hz1 hz2 rfl (by decide) (.slice p 3 c) 3 (bys (nb n 3)) rfl (((G.refl wr).alloc _).ownsRow HO.out) ⟨wr.heap.size, 0, none⟩ 1 1 [.int .u8 (n / 65536 % 256)] rfl rfl (cell_one_new _ _ _) (by simp [Value.oneCell']) (by unfold maxLen; omega) (by omega) (by simp; omega) ?_); intro v' w7 hown7 hgrow7 hnil7 hat7; obtain ⟨p7, c7, rfl⟩ := ownsRow_shape hown7; have hG7 : G w w7 := (hg.alloc _).grown hgrow7 (fun k h => (HO.out.lt k h).1); have H7 := Lib.hid hown7; clear hgrow7 hnil7 hat7 hown7)
      go_roundw
      case rel => exact ⟨4, p7, c7, by omega, rfl, rfl, by have := H7.out; simpa [bys, nb, numB, b8_int] using this, hG7⟩
      case measure => simp [intOf]
    · have HO := Lib.hid hown
      have hgz := hg.size
      clear hown
      go_wp2_with (at_builtin; go_loud (refine wpList_append2 _ rfl _ _ 22 rfl w.heap.size 5 i0 (.int .u8 0) 1 1 Try.underlying22 hi hz0 hz1 hz2 rfl (by decide) (.slice p 4 c) 4 (bys (nb n 4)) rfl (((G.refl wr).alloc _).ownsRow HO.out) ⟨wr.heap.size, 0, none⟩ 1 1 [.int .u8 (n / 256 % 256)] rfl rfl (cell_one_new _ _ _) (by simp [Value.oneCell']) (by unfold maxLen; omega) (by omega) (by simp; omega) ?_); intro v' w7 hown7 hgrow7 hnil7 hat7; obtain ⟨p7, c7, rfl⟩ := ownsRow_shape hown7; have hG7 : G w w7 := (hg.alloc _).grown hgrow7 (fun k h => (HO.out.lt k h).1); have H7 := Lib.hid hown7; clear hgrow7 hnil7 hat7 hown7)
      go_roundw
      case rel => exact ⟨5, p7, c7, by omega, rfl, rfl, by have := H7.out; simpa [bys, nb, numB, b8_int] using this, hG7⟩
      case measure => simp [intOf]
    · have HO := Lib.hid hown
      have hgz := hg.size
      clear hown
      go_wp2_with (at_builtin; go_loud (refine wpList_append2 _ rfl _ _ 22 rfl w.heap.size 5 i0 (.int .u8 0) 1 1 Try.underlying22 hi hz0 hz1 hz2 rfl (by decide) (.slice p 5 c) 5 (bys (nb n 5)) rfl (((G.refl wr).alloc _).ownsRow HO.out) ⟨wr.heap.size, 0, none⟩ 1 1 [.int .u8 (n % 256)] rfl rfl (cell_one_new _ _ _) (by simp [Value.oneCell']) (by unfold maxLen; omega) (by omega) (by simp; omega) ?_); intro v' w7 hown7 hgrow7 hnil7 hat7; obtain ⟨p7, c7, rfl⟩ := ownsRow_shape hown7; have hG7 : G w w7 := (hg.alloc _).grown hgrow7 (fun k h => (HO.out.lt k h).1); have H7 := Lib.hid hown7; clear hgrow7 hnil7 hat7 hown7)
      go_roundw
      case rel => exact ⟨6, p7, c7, by omega, rfl, rfl, by have := H7.out; simpa [bys, nb, numB, b8_int] using this, hG7⟩
      case measure => simp [intOf]
    · have HO := Lib.hid hown
      clear hown
      go_wp2_with fail
      go_ret
      exact ⟨.slice p 6 c, rfl, HO.out, hg⟩
def accE0 (f t : ByteArray) : List UInt8 := textB f ++ textB t
set_option maxRecDepth 10000 in
set_option maxHeartbeats 8000000 in
theorem rput_any (E : Edg) (w : World) (h : EdgAt w E) : Calls Try.prog 22 #[ev E] w fun e w' => ∃ v, e = .returned (.tuple #[v, .int .i64 (checkE E)]) ∧ w'.ownsRow w.heap.size 5 1 v (putE E).length (bys (putE E)) ∧ G w w' := by
  obtain ⟨i0, hi, hz0, hz1, hz2⟩ := info_parts infoB
  obtain ⟨f, t, l, tm, v, ps⟩ := E
  obtain ⟨-, vp, vc, hvv, -⟩ := id h.rdr
  simp only at hvv
  subst hvv
  have hAT := h
  obtain ⟨hr, hn, hz, hf, ht, hl⟩ := h
  simp only at hr hn hz hf ht hl
  obtain ⟨n, hnn⟩ : ∃ n, n = ps.length := ⟨_, rfl⟩
  have HN := Lib.hid hnn
  obtain ⟨c, hcc⟩ : ∃ c, c = checkP f t l tm ps := ⟨_, rfl⟩
  have HPUT : Hid (putE ⟨f, t, l, tm, .slice vp ps.length vc, ps⟩ = if c = 0 then putB f t l tm ps else []) := Lib.hid (by rw [hcc]; rfl)
  have HC : Hid (checkE ⟨f, t, l, tm, .slice vp ps.length vc, ps⟩ = c) := Lib.hid (by rw [hcc]; rfl)
  obtain ⟨WA, hWA⟩ : ∃ X : World, X = w.alloc (.cells #[.string f, .string t, .string l, .int .i64 tm, .slice vp n vc] 27) := ⟨_, rfl⟩
  have hgA : G w WA := by rw [hWA]; exact (G.refl w).alloc _
  have hbA : WA.heap[w.heap.size]? = some (.cells #[.string f, .string t, .string l, .int .i64 tm, .slice vp n vc] 27 (0, 0)) := by rw [hWA]; exact alloc_new _ _
  have HCK := Lib.hid (rCheck_any ⟨f, t, l, tm, .slice vp ps.length vc, ps⟩ WA (hAT.g hgA))
  rw [HC.out] at HCK
  unfold ev at HCK
  simp only at HCK
  unfold ev
  simp only
  rw [HC.out]
  rw [← hnn] at hr hn HPUT HCK ⊢
  have HR := Lib.hid (hr.g hgA)
  have HWA := Lib.hid hWA
  obtain ⟨c0, c1, c2, c3, c4⟩ := cells5 hbA
  clear hnn hr hz hAT HC hWA hbA
  go_enter Try.func22, Try.ntmps22
  go_upto_region 1 with fail
  rw [← HWA.out]
  go_wp2_with fail
  refine HCK.out.mono ?_
  rintro e W0 ⟨rfl, hgx⟩
  have HG0 := Lib.hid (hgA.trans hgx)
  have c0 := hgx.cell c0
  have c1 := hgx.cell c1
  have c2 := hgx.cell c2
  have c3 := hgx.cell c3
  have c4 := hgx.cell c4
  have HR0 := Lib.hid (HR.out.g hgx)
  clear HCK hgA hgx HR
  by_cases hc0 : c = 0
  · have HPUT := Lib.hid (HPUT.out.trans (if_pos hc0))
    obtain ⟨o1, o2, o3, o4, o5, o6⟩ := check_ok (hcc.symm.trans hc0)
    subst hc0
    have hf2 := vertex_size o1
    have ht2 := vertex_size o2
    have hl2 := free_size o3
    have HM := Lib.hid (fun p hp => (⟨free_size (ris_mem o4 p hp).1, right_size (ris_mem o4 p hp).2⟩ : p.1.size ≤ 20 ∧ _))
    have hn8 : n ≤ 8 := by rw [HN.out]; exact o5
    have htm : 0 ≤ tm ∧ tm ≤ 1099511627776 := by simpa [timeB] using o6
    obtain ⟨ht0, ht1⟩ := htm
    clear o1 o2 o3 o4 o5 o6 hcc hf ht hl hn
    go_upto_region 4 with fail
    obtain ⟨WD, hWD⟩ : ∃ WD : World, WD = W0.drew := ⟨_, rfl⟩
    have hsD : G W0 WD := by rw [hWD]; exact (G.refl W0).drew
    refine region_hlW (fun w' => G W0 w') 99 12 (by kernel_rfl) rfl ?_
    intro Q0 HQ0
    simp only [List.replicate_succ, List.replicate_zero]
    rw [← hWD]
    clear hWD
    refine hl_take_np 0 (by kernel_rfl) (by kernel_rfl) rfl (by kernel_rfl) hsD (v := ?_) ?_ ?_
    rotate_left
    · (rintro x hx; have k1 := hx.cell c0; have k2 := hx.cell c1; have k3 := hx.cell c2; clear hx; go_simp; try rfl)
    simp only [Act.put, List.setIfInBounds_toArray, List.set_cons_zero, List.set_cons_succ]
    refine hl_take_np 1 (by kernel_rfl) (by kernel_rfl) rfl (by kernel_rfl) hsD (v := ?_) ?_ ?_
    rotate_left
    · (rintro x hx; have k1 := hx.cell c0; have k2 := hx.cell c1; have k3 := hx.cell c2; clear hx; go_simp; try rfl)
    simp only [Act.put, List.setIfInBounds_toArray, List.set_cons_zero, List.set_cons_succ]
    refine hl_take_np 3 (by kernel_rfl) (by kernel_rfl) rfl (by kernel_rfl) hsD (v := ?_) ?_ ?_
    rotate_left
    · (rintro x hx; have k1 := hx.cell c0; have k2 := hx.cell c1; have k3 := hx.cell c2; clear hx; go_simp; try rfl)
    simp only [Act.put, List.setIfInBounds_toArray, List.set_cons_zero, List.set_cons_succ]
    refine hl_take_np 4 (by kernel_rfl) (by kernel_rfl) rfl (by kernel_rfl) hsD (v := ?_) ?_ ?_
    rotate_left
    · (rintro x hx; have k1 := hx.cell c0; have k2 := hx.cell c1; have k3 := hx.cell c2; clear hx; go_simp; try rfl)
    simp only [Act.put, List.setIfInBounds_toArray, List.set_cons_zero, List.set_cons_succ]
    refine hl_take_np 7 (by kernel_rfl) (by kernel_rfl) rfl (by kernel_rfl) hsD (v := ?_) ?_ ?_
    rotate_left
    · (rintro x hx; have k1 := hx.cell c0; have k2 := hx.cell c1; have k3 := hx.cell c2; clear hx; go_simp; try rfl)
    simp only [Act.put, List.setIfInBounds_toArray, List.set_cons_zero, List.set_cons_succ]
    refine hl_take_np 8 (by kernel_rfl) (by kernel_rfl) rfl (by kernel_rfl) hsD (v := ?_) ?_ ?_
    rotate_left
    · (rintro x hx; have k1 := hx.cell c0; have k2 := hx.cell c1; have k3 := hx.cell c2; clear hx; go_simp; try rfl)
    simp only [Act.put, List.setIfInBounds_toArray, List.set_cons_zero, List.set_cons_succ]
    refine hl_stepW 2 (by kernel_rfl) rfl (by kernel_rfl) ?_
    intro K hK
    go_simp
    refine (rtextB_any f WD (by omega)).mono ?_
    rintro e W1 ⟨a, rfl, hoa, hgx⟩
    have hs1 : G W0 W1 := hsD.trans hgx
    obtain ⟨pa, qa, rfl⟩ := ownsRow_shape hoa
    refine hK _ _ (fun _ => hs1) ?_
    clear hK K hgx
    simp only [Act.put, List.setIfInBounds_toArray, List.set_cons_zero, List.set_cons_succ]
    have hoa := ownsRow_mono hoa hsD.size
    refine hl_stepW 5 (by kernel_rfl) rfl (by kernel_rfl) ?_
    intro K hK
    go_simp
    refine (rtextB_any t W1 (by omega)).mono ?_
    rintro e W2 ⟨b, rfl, hob, hgx⟩
    have hs2 : G W0 W2 := hs1.trans hgx
    obtain ⟨pb, qb, rfl⟩ := ownsRow_shape hob
    have hoa := hgx.ownsRow hoa
    refine hK _ _ (fun _ => hs2) ?_
    clear hK K hgx
    simp only [Act.put, List.setIfInBounds_toArray, List.set_cons_zero, List.set_cons_succ]
    refine hl_step 6 (by kernel_rfl) rfl ?_
    refine wpList_appendR W2 rfl _ _ 22 rfl W0.heap.size 5 i0 (.int .u8 0) 1 1 Try.underlying22 hi hz0 hz1 hz2 rfl (by decide) (.slice pa (1 + f.size) qa) (1 + f.size) (bys (textB f)) rfl hoa (.slice pb (1 + t.size) qb) (1 + t.size) (bys (textB t)) rfl (rdr_of_owns hob) (bys_one _) (by unfold maxLen; omega) (by omega) (hs2.size) ?_
    intro px qx W3 hox hgrow hat
    have hs3 : G W0 W3 := hs2.grown hgrow (fun k h => (hoa.lt k h).1)
    clear hgrow hat
    simp only [Act.put, List.setIfInBounds_toArray, List.set_cons_zero, List.set_cons_succ]
    show _ ∧ _
    refine ⟨(by first | exact hs3 | exact fun _ => hs3), ?_⟩
    clear hoa hob
    refine hl_stepW 9 (by kernel_rfl) rfl (by kernel_rfl) ?_
    intro K hK
    go_simp
    refine (rtextB_any l W3 (by omega)).mono ?_
    rintro e W4 ⟨d, rfl, hod, hgx⟩
    have hs4 : G W0 W4 := hs3.trans hgx
    obtain ⟨pd, qd, rfl⟩ := ownsRow_shape hod
    have hox := hgx.ownsRow hox
    refine hK _ _ (fun _ => hs4) ?_
    clear hK K hgx
    simp only [Act.put, List.setIfInBounds_toArray, List.set_cons_zero, List.set_cons_succ]
    refine hl_step 10 (by kernel_rfl) rfl ?_
    refine wpList_appendR W4 rfl _ _ 22 rfl W0.heap.size 5 i0 (.int .u8 0) 1 1 Try.underlying22 hi hz0 hz1 hz2 rfl (by decide) (.slice px (1 + f.size + (1 + t.size)) qx) (1 + f.size + (1 + t.size)) (bys (textB f) ++ bys (textB t)) rfl hox (.slice pd (1 + l.size) qd) (1 + l.size) (bys (textB l)) rfl (rdr_of_owns hod) (bys_one _) (by unfold maxLen; omega) (by omega) (hs4.size) ?_
    intro py qy W5 hoy hgrow hat
    have hs5 : G W0 W5 := hs4.grown hgrow (fun k h => (hox.lt k h).1)
    clear hgrow hat
    simp only [Act.put, List.setIfInBounds_toArray, List.set_cons_zero, List.set_cons_succ]
    show _ ∧ _
    refine ⟨(by first | exact hs5 | exact fun _ => hs5), ?_⟩
    clear hox hod
    refine hl_take_np 11 (by kernel_rfl) (by kernel_rfl) rfl (by kernel_rfl) hs5 (v := ?_) ?_ ?_
    rotate_left
    · (rintro x hx; clear hx; go_simp; try rfl)
    simp only [Act.put, List.setIfInBounds_toArray, List.set_cons_zero, List.set_cons_succ]
    refine hl_done (by kernel_rfl) ?_ _
    refine NoPanic.normal (HQ0.out _ _ ?_)
    clear HQ0
    obtain ⟨ny, hny⟩ : ∃ k, k = 1 + f.size + (1 + t.size) + (1 + l.size) := ⟨_, rfl⟩
    rw [← hny] at hoy ⊢
    have hny1 : ny ≤ 63 := by omega
    obtain ⟨Ly, hLy⟩ : ∃ L : List UInt8, L = textB f ++ textB t ++ textB l := ⟨_, rfl⟩
    have hoy : W5.ownsRow W0.heap.size 5 1 (.slice py ny qy) ny (bys Ly) := by rw [hLy]; simpa [bys, List.map_append] using hoy
    have HLY := Lib.hid hLy
    clear hs1 hs2 hs3 hs4 hsD hny hLy
    have d0 := hs5.cell c0
    have d1 := hs5.cell c1
    have d2 := hs5.cell c2
    have d3 := hs5.cell c3
    have d4 := hs5.cell c4
    have HOY := Lib.hid hoy
    clear hoy
    go_wp2_with fail
    refine (rnumB_any tm W5 ht0 (by omega)).mono ?_
    rintro e W6 ⟨vm, rfl, hom, hgx⟩
    obtain ⟨pm, qm, rfl⟩ := ownsRow_shape hom
    have HOY6 := Lib.hid (hgx.ownsRow HOY.out)
    have HOM := Lib.hid (rdr_of_owns hom)
    have hs6 := hs5.trans hgx
    have d4 := hgx.cell d4
    clear HOY hom hgx d0 d1 d2 d3
    go_upto_region 6 with (at_builtin; go_loud (refine wpList_appendR W6 rfl _ _ 22 rfl W0.heap.size 5 i0 (.int .u8 0) 1 1 Try.underlying22 hi hz0 hz1 hz2 rfl (by decide) (.slice py ny qy) ny (bys Ly) rfl HOY6.out (.slice pm 6 qm) 6 (bys (numB tm)) rfl HOM.out (bys_one _) (by unfold maxLen; omega) (by omega) hs6.size ?_); intro p7 q7 W7 ho7 hgrow7 hat7; have hs7 : G W0 W7 := hs6.grown hgrow7 (fun k h => (HOY6.out.lt k h).1); have HO7 := Lib.hid ho7; have d4 := hs7.cell c4; clear hgrow7 hat7 ho7)
    have hnI : IntKind.u8.wrap (n : Int) = n := by rw [IntKind.wrap_u8]; omega
    go_upto_region 7 with (at_builtin; go_loud (refine wpList_append2 _ rfl _ _ 22 rfl W0.heap.size 5 i0 (.int .u8 0) 1 1 Try.underlying22 hi hz0 hz1 hz2 rfl (by decide) (.slice p7 (ny + 6) q7) (ny + 6) (bys Ly ++ bys (numB tm)) rfl (((G.refl W7).alloc _).ownsRow HO7.out) ⟨W7.heap.size, 0, none⟩ 1 1 [.int .u8 n] rfl rfl (cell_one_new _ _ _) (by simp [Value.oneCell']) (by unfold maxLen; omega) (by omega) (by have := hs7.size; simp; omega) ?_); intro v8 W8 ho8 hgrow8 hnil8 hat8; obtain ⟨p8, q8, rfl⟩ := ownsRow_shape ho8; have hs8 : G W0 W8 := (hs7.alloc _).grown hgrow8 (fun k h => (HO7.out.lt k h).1); have HO8 := Lib.hid ho8; clear hgrow8 hnil8 hat8 ho8)
    have hL0 : bys Ly ++ bys (numB tm) ++ [.int .u8 n] = bys (headE f t l tm n) := by
      rw [HLY.out, headE, show [Value.int IntKind.u8 (n : Int)] = bys [UInt8.ofNat n] by rw [bys_n, hnI]]
      simp [bys]
    have hown0 := HO8.out
    rw [hL0] at hown0
    have hlen0 : ny + 6 + 1 = (headE f t l tm n).length := by have := hown0.1; rw [bys_len, Nat.mul_one] at this; exact this.symm
    obtain ⟨nh, hnh⟩ : ∃ k, k = ny + 6 + 1 := ⟨_, rfl⟩
    rw [← hnh] at hown0 hlen0 ⊢
    clear hL0 HO8 HO7 HOY6 HOM HLY hs5 hs6 hs7 hny1 d4 hnh hnI
    go_wp2_with fail
    go_loopw [5, 6] (fun o i wr => ∃ (k m : Nat) (p' : Option Addr) (c' : Nat), k ≤ n ∧ i = .int .i64 k ∧ o = .slice p' m c' ∧ Hid (m = (accE f t l tm n ps k).length) ∧ wr.ownsRow W0.heap.size 5 1 (.slice p' m c') m (bys (accE f t l tm n ps k)) ∧ G W0 wr) (fun _ i _ => n - (intOf i).toNat)
    case atStart => exact ⟨0, nh, p8, q8, by omega, rfl, rfl, Lib.hid (by rw [accE_zero]; exact hlen0), by rw [accE_zero]; exact hown0, hs8⟩
    case round =>
      clear hown0 hlen0 hs8
      obtain ⟨k, m, p', c', hk, rfl, rfl, HMM, hown, hg⟩ := hrel
      by_cases hlt : k < n
      · have hkn : (k : Int) < (n : Int) := by omega
        obtain ⟨x, hx⟩ : ∃ x, ps[k]? = some x := ⟨ps[k]'(by have := HN.out; omega), List.getElem?_eq_getElem _⟩
        obtain ⟨b, o, rfl, q0, q1, q2, q3⟩ := HR0.out.prop hx
        have t0 := hg.cell q0
        have t1 := hg.cell q1
        have t2 := hg.cell q2
        have t3 := hg.cell q3
        have g4 := hg.cell c4
        clear q0 q1 q2 q3
        obtain ⟨z0, z3, zn, zk⟩ := HM.out x (List.mem_of_getElem? hx)
        have HACC := Lib.hid (accE_succ f t l tm n hx)
        have hm9 : m ≤ 1000 := by rw [HMM.out]; exact accE_len hf2 ht2 hl2 (by omega) (fun p hp => ⟨(HM.out p hp).1, (HM.out p hp).2.1⟩)
        obtain ⟨x0, x1, x2, x3⟩ := x
        simp only at t0 t1 t2 t3 z0 z3 zn zk
        have HOWN := Lib.hid hown
        have HOWNR := Lib.hid hown
        obtain ⟨X1, hX1⟩ : ∃ X : World, X = wr.alloc (.cells #[.int .i64 x1, .int .i64 x2, .string x3] 43) := ⟨_, rfl⟩
        have hgB : G wr X1 := by rw [hX1]; exact (G.refl wr).alloc _
        have hb1 : X1.heap[wr.heap.size]? = some (.cells #[.int .i64 x1, .int .i64 x2, .string x3] 43 (0, 0)) := by rw [hX1]; exact alloc_new _ _
        have e0 : X1.cell? ⟨wr.heap.size, 0, none⟩ = some (.int .i64 x1) := by unfold World.cell?; rw [hb1]; rfl
        have e1 : X1.cell? ⟨wr.heap.size, 1, none⟩ = some (.int .i64 x2) := by unfold World.cell?; rw [hb1]; rfl
        have e2 : X1.cell? ⟨wr.heap.size, 2, none⟩ = some (.string x3) := by unfold World.cell?; rw [hb1]; rfl
        have HX1 := Lib.hid hX1
        have HB := Lib.hid hgB
        clear hown hx hb1 hX1
        go_upto_region 11 with fail
        rw [← HX1.out]
        have t0 := HB.out.cell t0
        have g4 := HB.out.cell g4
        have HOWN := Lib.hid (HB.out.ownsRow HOWN.out)
        have hgX : G W0 X1 := hg.trans hgB
        clear t1 t2 t3
        go_wp2_with fail
        refine (rtextB_any x0 X1 (by omega)).mono ?_
        rintro e X2 ⟨vt, rfl, hot, hgx⟩
        have e0 := hgx.cell e0
        have e1 := hgx.cell e1
        have e2 := hgx.cell e2
        obtain ⟨pt, qt, rfl⟩ := ownsRow_shape hot
        have HOT := Lib.hid (rdr_of_owns hot)
        have HOWN := Lib.hid (hgx.ownsRow HOWN.out)
        have hgX2 := hgX.trans hgx
        have hzX2 : wr.heap.size < X2.heap.size := World.block_lt_of_cell? X2 _ e0
        clear hot hgx t0 g4
        go_upto_region 12 with (at_builtin; go_loud (refine wpList_appendR X2 rfl _ _ 22 rfl W0.heap.size 5 i0 (.int .u8 0) 1 1 Try.underlying22 hi hz0 hz1 hz2 rfl (by decide) (.slice p' m c') m (bys (accE f t l tm n ps k)) rfl HOWN.out (.slice pt (1 + x0.size) qt) (1 + x0.size) (bys (textB x0)) rfl HOT.out (bys_one _) (by unfold maxLen; omega) (by omega) hgX2.size ?_); intro p3 q3 X3 ho3 hgrow3 hat3; have hgX3 : G W0 X3 := hgX2.grown hgrow3 (fun k h => (HOWN.out.lt k h).1); have HO3 := Lib.hid ho3; have HNB3 := Lib.hid (show ¬ (Value.slice p3 (m + (1 + x0.size)) q3).ownBlock = some wr.heap.size from fun e => by rcases hat3 _ e with h | h; have := (HOWNR.out.lt _ h).2; omega; omega); clear hat3 ho3; have hg3e := Lib.hid (grownBy_fr hgrow3); clear hgrow3)
        have hnb : ¬ (Value.slice p' m c').ownBlock = some wr.heap.size := fun e => by have := (HOWNR.out.lt _ e).2; omega
        have e0 := hg3e.out.cell (p := ⟨wr.heap.size, 0, none⟩) hnb e0
        have e1 := hg3e.out.cell (p := ⟨wr.heap.size, 1, none⟩) hnb e1
        have e2 := hg3e.out.cell (p := ⟨wr.heap.size, 2, none⟩) hnb e2
        clear hg3e hnb HOWN HOT hgX2 hgX
        rcases zk with hk1 | hk2
        · obtain ⟨zn1, zn2⟩ := zn hk1
          subst hk1
          clear zn
          have HPE := Lib.hid (show propE (x0, 1, x2, x3) = textB x0 ++ [b8 1] ++ numB (x2 + 1099511627776) by simp [propE])
          go_upto_region 13 with (at_builtin; go_loud (refine wpList_append2 _ rfl _ _ 22 rfl W0.heap.size 5 i0 (.int .u8 0) 1 1 Try.underlying22 hi hz0 hz1 hz2 rfl (by decide) (.slice p3 (m + (1 + x0.size)) q3) (m + (1 + x0.size)) (bys (accE f t l tm n ps k) ++ bys (textB x0)) rfl (((G.refl X3).alloc _).ownsRow HO3.out) ⟨X3.heap.size, 0, none⟩ 1 1 [.int .u8 1] rfl rfl (cell_one_new _ _ _) (by simp [Value.oneCell']) (by unfold maxLen; omega) (by omega) (by have := hgX3.size; simp; omega) ?_); intro v4 X4 ho4 hgrow4 hnil4 hat4; obtain ⟨p4, q4, rfl⟩ := ownsRow_shape ho4; have hgX4 : G W0 X4 := (hgX3.alloc _).grown hgrow4 (fun k h => (HO3.out.lt k h).1); have HO4 := Lib.hid ho4; have hfr4 := Lib.hid ((((G.refl X3).alloc (.cells #[.int .u8 1] 5)).fr _).trans (grownBy_fr hgrow4) (fun _ _ h => h)); clear hgrow4 hnil4 hat4 ho4)
          have hnb : ¬ (Value.slice p3 (m + (1 + x0.size)) q3).ownBlock = some wr.heap.size := fun e => HNB3.out e
          have e0 := hfr4.out.cell (p := ⟨wr.heap.size, 0, none⟩) hnb e0
          have e1 := hfr4.out.cell (p := ⟨wr.heap.size, 1, none⟩) hnb e1
          have e2 := hfr4.out.cell (p := ⟨wr.heap.size, 2, none⟩) hnb e2
          clear hnb hfr4 HO3 HNB3
          go_wp2_with fail
          refine (rnumB_any (x2 + 1099511627776) X4 (by omega) (by omega)).mono ?_
          rintro e X5 ⟨v5, rfl, ho5, hgx⟩
          obtain ⟨p5, q5, rfl⟩ := ownsRow_shape ho5
          have HO5 := Lib.hid (rdr_of_owns ho5)
          have HO4 := Lib.hid (hgx.ownsRow HO4.out)
          have hgX5 := hgX4.trans hgx
          clear ho5 hgx e0 e1 e2
          go_wp2_with (at_builtin; go_loud (refine wpList_appendR X5 rfl _ _ 22 rfl W0.heap.size 5 i0 (.int .u8 0) 1 1 Try.underlying22 hi hz0 hz1 hz2 rfl (by decide) (.slice p4 (m + (1 + x0.size) + 1) q4) (m + (1 + x0.size) + 1) (bys (accE f t l tm n ps k) ++ bys (textB x0) ++ [.int .u8 1]) rfl HO4.out (.slice p5 6 q5) 6 (bys (numB (x2 + 1099511627776))) rfl HO5.out (bys_one _) (by unfold maxLen; omega) (by omega) hgX5.size ?_); intro p6 q6 X6 ho6 hgrow6 hat6; have hgX6 : G W0 X6 := hgX5.grown hgrow6 (fun k h => (HO4.out.lt k h).1); have HO6 := Lib.hid ho6; clear hgrow6 hat6 ho6)
          have hL6 : bys (accE f t l tm n ps k) ++ bys (textB x0) ++ [.int .u8 1] ++ bys (numB (x2 + 1099511627776)) = bys (accE f t l tm n ps (k + 1)) := by
            rw [HACC.out, HPE.out, show [Value.int IntKind.u8 1] = bys [b8 1] by rw [bys_w]; rfl]
            simp [bys]
          have hown6 := HO6.out
          rw [hL6] at hown6
          have hlen6 : m + (1 + x0.size) + 1 + 6 = (accE f t l tm n ps (k + 1)).length := by have := hown6.1; rw [bys_len, Nat.mul_one] at this; exact this.symm
          clear hL6 HO6
          go_roundw
          case rel => exact ⟨k + 1, m + (1 + x0.size) + 1 + 6, p6, q6, by omega, by go_num, rfl, Lib.hid hlen6, hown6, hgX6⟩
          case measure => simp [intOf]; omega
        · subst hk2
          clear zn
          have HPE := Lib.hid (show propE (x0, 2, x2, x3) = textB x0 ++ [b8 2] ++ textB x3 by simp [propE])
          go_upto_region 13 with (at_builtin; go_loud (refine wpList_append2 _ rfl _ _ 22 rfl W0.heap.size 5 i0 (.int .u8 0) 1 1 Try.underlying22 hi hz0 hz1 hz2 rfl (by decide) (.slice p3 (m + (1 + x0.size)) q3) (m + (1 + x0.size)) (bys (accE f t l tm n ps k) ++ bys (textB x0)) rfl (((G.refl X3).alloc _).ownsRow HO3.out) ⟨X3.heap.size, 0, none⟩ 1 1 [.int .u8 2] rfl rfl (cell_one_new _ _ _) (by simp [Value.oneCell']) (by unfold maxLen; omega) (by omega) (by have := hgX3.size; simp; omega) ?_); intro v4 X4 ho4 hgrow4 hnil4 hat4; obtain ⟨p4, q4, rfl⟩ := ownsRow_shape ho4; have hgX4 : G W0 X4 := (hgX3.alloc _).grown hgrow4 (fun k h => (HO3.out.lt k h).1); have HO4 := Lib.hid ho4; have hfr4 := Lib.hid ((((G.refl X3).alloc (.cells #[.int .u8 2] 5)).fr _).trans (grownBy_fr hgrow4) (fun _ _ h => h)); clear hgrow4 hnil4 hat4 ho4)
          have hnb : ¬ (Value.slice p3 (m + (1 + x0.size)) q3).ownBlock = some wr.heap.size := fun e => HNB3.out e
          have e0 := hfr4.out.cell (p := ⟨wr.heap.size, 0, none⟩) hnb e0
          have e1 := hfr4.out.cell (p := ⟨wr.heap.size, 1, none⟩) hnb e1
          have e2 := hfr4.out.cell (p := ⟨wr.heap.size, 2, none⟩) hnb e2
          clear hnb hfr4 HO3 HNB3
          go_wp2_with fail
          refine (rtextB_any x3 X4 (by omega)).mono ?_
          rintro e X5 ⟨v5, rfl, ho5, hgx⟩
          obtain ⟨p5, q5, rfl⟩ := ownsRow_shape ho5
          have HO5 := Lib.hid (rdr_of_owns ho5)
          have HO4 := Lib.hid (hgx.ownsRow HO4.out)
          have hgX5 := hgX4.trans hgx
          clear ho5 hgx e0 e1 e2
          go_wp2_with (at_builtin; go_loud (refine wpList_appendR X5 rfl _ _ 22 rfl W0.heap.size 5 i0 (.int .u8 0) 1 1 Try.underlying22 hi hz0 hz1 hz2 rfl (by decide) (.slice p4 (m + (1 + x0.size) + 1) q4) (m + (1 + x0.size) + 1) (bys (accE f t l tm n ps k) ++ bys (textB x0) ++ [.int .u8 2]) rfl HO4.out (.slice p5 (1 + x3.size) q5) (1 + x3.size) (bys (textB x3)) rfl HO5.out (bys_one _) (by unfold maxLen; omega) (by omega) hgX5.size ?_); intro p6 q6 X6 ho6 hgrow6 hat6; have hgX6 : G W0 X6 := hgX5.grown hgrow6 (fun k h => (HO4.out.lt k h).1); have HO6 := Lib.hid ho6; clear hgrow6 hat6 ho6)
          have hL6 : bys (accE f t l tm n ps k) ++ bys (textB x0) ++ [.int .u8 2] ++ bys (textB x3) = bys (accE f t l tm n ps (k + 1)) := by
            rw [HACC.out, HPE.out, show [Value.int IntKind.u8 2] = bys [b8 2] by rw [bys_w]; rfl]
            simp [bys]
          have hown6 := HO6.out
          rw [hL6] at hown6
          have hlen6 : m + (1 + x0.size) + 1 + (1 + x3.size) = (accE f t l tm n ps (k + 1)).length := by have := hown6.1; rw [bys_len, Nat.mul_one] at this; exact this.symm
          clear hL6 HO6
          go_roundw
          case rel => exact ⟨k + 1, m + (1 + x0.size) + 1 + (1 + x3.size), p6, q6, by omega, by go_num, rfl, Lib.hid hlen6, hown6, hgX6⟩
          case measure => simp [intOf]; omega
      · have hkn : ¬ (k : Int) < (n : Int) := by omega
        have HB := Lib.hid (show accE f t l tm n ps k = putB f t l tm ps by rw [accE, List.take_of_length_le (by have := HN.out; omega), HN.out]; rfl)
        rw [HB.out] at hown HMM
        rw [HMM.out] at hown ⊢
        have HOWN := Lib.hid (ownsRow_mono hown HG0.out.size)
        have g4 := hg.cell c4
        clear hown
        go_wp2_with fail
        refine bodyPost_ret (v := .tuple #[.slice p' (putB f t l tm ps).length c', .int .i64 0]) ?_ rfl ⟨_, rfl, by rw [HPUT.out]; exact HOWN.out, HG0.out.trans hg⟩
        simp [results, Try.results22, go_sem]
  · have HPUT := Lib.hid (HPUT.out.trans (if_neg hc0))
    clear hcc c0 c1 c2 c3 c4
    have hc1 : (c != 0) = true := by simpa using hc0
    go_wp2_with fail
    refine bodyPost_ret (v := .tuple #[.slice none 0 0, .int .i64 c]) ?_ rfl ⟨.slice none 0 0, rfl, by rw [HPUT.out]; exact World.ownsRow_nil _ _ _ _, HG0.out⟩
    simp [results, Try.results22, go_sem]
end Go.Proofs.Ytfdajignnnhnmaa
