/- NameBooks: the walk -/
import Derived.Test.YtamhlflacnldfaaNameJ
namespace Go.Proofs.Ytamhlflacnldfaa
set_option linter.unusedVariables false
set_option linter.unusedSimpArgs false
open Go.RowKit Go.Shelf Go.Maps

theorem textV_is (L : List ByteArray) (n : Int) : ∃ t b, textV L n = .tuple #[.string t, .bool b] := by
  unfold textV; split
  · exact ⟨_, _, rfl⟩
  · exact ⟨_, _, rfl⟩
theorem nums_len (L ss : List ByteArray) : (nums L ss).length = ss.length := by simp [nums]
theorem sameT_yes (xs ys : List ByteArray) (va vb : Value) (w : World) (ha : Rdr w 1 va xs.length (strs xs)) (hb : Rdr w 1 vb ys.length (strs ys)) (hx : xs.length ≤ 1099511627776) (he : xs = ys) :
    Calls Try.prog 26 #[va, vb] w fun e w' => e = .returned (.bool true) ∧ G w w' := by
  have := sameT_any xs ys va vb w ha hb hx (by rw [← he]; exact hx)
  simpa [he] using this

set_option maxRecDepth 10000 in
set_option maxHeartbeats 1000000 in
theorem books_any (ls : List (List ByteArray)) (s : ByteArray) (n : Int) (v : Value) (w : World) (hv : RdrRows w v ls) (h1 : ls.length ≤ 8796093022208) (h2 : ∀ l ∈ ls, l.length ≤ 8796093022208) (h3 : ∀ l ∈ ls, ∀ s ∈ l, s.size ≤ maxLen) (hs : s.size ≤ maxLen) :
    Calls Try.prog 4 #[v, .string s, .int .i64 n] w fun e w' => e = .returned (.bool true) ∧ G w w' := by
  obtain ⟨p, c, rfl⟩ := hv.shape
  have HV := Lib.hid hv
  have H2 := Lib.hid h2
  have H3 := Lib.hid h3
  obtain ⟨m, hm⟩ : ∃ m, m = ls.length := ⟨_, rfl⟩
  have hsize := size_any ls _ w hv h1 h2
  rw [← hm] at h1
  simp only [← hm] at hsize ⊢
  have HM := Lib.hid hm
  clear hv h2 h3 hm
  go_enter Try.func4, Try.ntmps4
  go_wp2_with fail
  refine hsize.mono ?_
  clear hsize
  rintro e w0 ⟨z, rfl, hz, rfl⟩
  by_cases hz4 : (400 : Int) < z
  · clear hz
    go_wp2_with fail
    refine (awake_any w).mono ?_
    rintro e w1 ⟨rfl, hg⟩
    go_wp2_with fail
    go_ret
    exact ⟨rfl, hg⟩
  · have htot := hz (by omega)
    have hd : decide ((400 : Int) < z) = false := by simpa using hz4
    clear hz hz4
    go_wp2_with fail
    refine (new_any w).mono ?_
    rintro e w1 ⟨B, rfl, hb, hg1⟩
    have hs1 := hg1.size
    go_wp2_with fail
    refine (rnew_any w1).mono ?_
    rintro e w2 ⟨R, rfl, hr, hg2⟩
    have HB := Lib.hid (hb.g hg2)
    have HR := Lib.hid hr
    have hgw : G w w2 := hg1.trans hg2
    clear hb hr hd
    have hs2 := hg2.size
    go_wp2_with fail
    go_loopw [9] (fun i wr => ∃ (k : Nat) (L : List ByteArray) (S T : Nat → Prop), k ≤ m ∧ i = .int .i64 k ∧ Hid (L.length ≤ tot (ls.take k)) ∧ Hid (Bk S wr B L) ∧ Hid (RBk T wr R L) ∧ Hid (∀ q, S q → w.heap.size ≤ q) ∧ Hid (∀ q, T q → w.heap.size ≤ q) ∧ Hid (∀ q, S q → ¬ T q) ∧ G w wr) (fun i _ => m - (intOf i).toNat)
    case atStart =>
      exact ⟨0, [], _, _, by omega, rfl, (by simp : ([] : List ByteArray).length ≤ tot (ls.take 0)), HB, HR, (fun q h => h.1 : ∀ q, (w.heap.size ≤ q ∧ q < w1.heap.size) → w.heap.size ≤ q), (fun q h => by have := h.1; omega : ∀ q, (w1.heap.size ≤ q ∧ q < w2.heap.size) → w.heap.size ≤ q),
        (fun q h h' => by have := h.2; have := h'.1; omega : ∀ q, (w.heap.size ≤ q ∧ q < w1.heap.size) → ¬ (w1.heap.size ≤ q ∧ q < w2.heap.size)), hgw⟩
    case round =>
    clear HB HR hgw
    obtain ⟨k, L, S, T, hk, rfl, HLn, HB, HR, HS, HT, HST, hg⟩ := hrel
    by_cases hlt : k < m
    · obtain ⟨b, o, l, q, d, rfl, hl, hcell0, hrow0⟩ := HV.out.row (i := k) (by have := HM.out; omega)
      have hcell := hg.cell hcell0
      have hTS := tot_snoc hl
      have hTL := tot_take_le ls (k + 1)
      have hLn := HLn.out
      have hll : L.length + l.length ≤ 400 := by omega
      have HTOT := Lib.hid (show L.length + l.length ≤ tot (ls.take (k + 1)) by omega)
      have HSS := Lib.hid (H3.out l (List.mem_of_getElem? hl))
      have HROW := Lib.hid (hrow0.g hg)
      have HC0 := Lib.hid hcell0
      have HROW0 := Lib.hid hrow0
      clear hl hTS hTL hLn hcell0 hrow0
      go_wp2_with fail
      refine (lentT_any l _ wr HROW.out (by omega)).mono ?_
      rintro e wa ⟨u, rfl, hlent, hga⟩
      have hsa := hga.size
      have HLE := Lib.hid hlent
      clear hlent
      go_wp2_with fail
      refine (of_small S B L l u wa (HLE.out.rdr (by simp [strs])) (HB.out.g hga) (fun _ g hg h => ?_) HSS.out (by omega)).mono ?_
      · have := (HLE.out.lt g hg).1
        have := HB.out.ltS h
        omega
      rintro e wb ⟨o1, S1, rfl, ho1, hb1, hS1, hd1, hF1⟩
      have hsb := hF1.size
      have HO1 := Lib.hid ho1
      have HB1 := Lib.hid hb1
      have HS1 := Lib.hid hS1
      have HD1 := Lib.hid hd1
      have HF1 := Lib.hid hF1
      have HRb := Lib.hid ((HR.out.g hga).fr hF1 (fun q hq h => HST.out q h hq))
      have HLb := Lib.hid (HLE.out.fr hF1 (fun g hg h => by have := (HLE.out.lt g hg).1; have := HB.out.ltS h; omega))
      have hgb : G w wb := g_of_fr (hg.trans hga) hF1 HS.out
      have hcellb := hgb.cell HC0.out
      clear ho1 hb1 hS1 hd1 hF1 hcell
      go_wp2_with fail
      refine (rOf_any T R L l _ wb (HROW0.out.g hgb) HRb.out (by omega)).mono ?_
      rintro e wc ⟨o2, T1, rfl, ho2, hr1, hT1, hd2, hF2⟩
      have hsc := hF2.size
      have hgc : G w wc := g_of_fr hgb hF2 HT.out
      have hcellc := hgc.cell HC0.out
      have HB2 := Lib.hid (HB1.out.fr hF2 (fun q hq h => by
        rcases HS1.out q hq with h' | h'
        · exact HST.out q h' h
        · have := HR.out.ltS h; omega))
      have HR2 := Lib.hid hr1
      have HT1 := Lib.hid hT1
      have hx1 : ∀ g, o1.ownBlock = some g → ¬ T g := fun g hg h => by
        have := (HO1.out.lt g hg).1; have := HR.out.ltS h; omega
      have HO2 := Lib.hid (hF2.ownsRow HO1.out hx1)
      have HR1r := Lib.hid (rdr_of_owns ho2)
      have HL2 := Lib.hid (HLb.out.fr hF2 (fun g hg h => by have := (HLE.out.lt g hg).1; have := HR.out.ltS h; omega))
      clear hr1 hT1 hF2 ho2 hd2 hx1 hcellb
      obtain ⟨M, hM⟩ : ∃ M, M = L ++ fresh L l := ⟨_, rfl⟩
      rw [← hM] at HB2 HR2
      have hMl : M.length ≤ L.length + l.length := by rw [hM, List.length_append]; have := fresh_len L l; omega
      have HMM := Lib.hid hM
      have hfind := find_any S1 B M s wc HB2.out hs
      have hrfind := rfind_any T1 R M s wc HR2.out (by omega)
      have htext := text_any S1 B M n wc HB2.out
      have hrtext := rtext_any T1 R M n wc HR2.out
      obtain ⟨tx, tb, htx⟩ := textV_is M n
      rw [htx] at htext hrtext
      generalize num M s = nu at hfind hrfind
      generalize inL s M = ib at hfind hrfind
      have HF := Lib.hid hfind
      have HRF := Lib.hid hrfind
      have HX := Lib.hid htext
      have HRX := Lib.hid hrtext
      clear hfind hrfind htext hrtext htx hM
      go_wp2_with fail
      refine HF.out.mono ?_
      rintro e we ⟨rfl, rfl⟩
      go_wp2_with fail
      refine HRF.out.mono ?_
      rintro e we ⟨rfl, rfl⟩
      go_wp2_with fail
      refine HX.out.mono ?_
      rintro e we ⟨rfl, rfl⟩
      go_wp2_with fail
      refine HRX.out.mono ?_
      rintro e we ⟨rfl, rfl⟩
      go_upto_region 14 with fail
      obtain ⟨rv, hRb, hRo, -⟩ := HR2.out
      have hRx : Boxed wc R 44 rv := hRb
      obtain ⟨rp, rc, rfl⟩ := ownsRow_shape hRo
      have cR := hRx.cell
      clear hRb hRo hRx
      refine region_hl (fun w' => G wc w') 99 48 (by kernel_rfl) rfl ?_
      simp only [List.replicate_succ, List.replicate_zero]
      have hs0 : (fun w' => G wc w') wc.drew := (G.refl wc).drew
      refine hl_take_np 0 (by kernel_rfl) (by kernel_rfl) rfl (by kernel_rfl) hs0 (v := ?_) ?_ ?_
      rotate_left
      · (rintro x hx; have k1 := hx.cell cR; have k2 := hx.cell hcellc; clear hx; go_simp; try rfl)
      simp only [Act.put, List.setIfInBounds_toArray, List.set_cons_zero, List.set_cons_succ]
      refine hl_take_np 1 (by kernel_rfl) (by kernel_rfl) rfl (by kernel_rfl) hs0 (v := ?_) ?_ ?_
      rotate_left
      · (rintro x hx; have k1 := hx.cell cR; have k2 := hx.cell hcellc; clear hx; go_simp; try rfl)
      simp only [Act.put, List.setIfInBounds_toArray, List.set_cons_zero, List.set_cons_succ]
      refine hl_take_np 2 (by kernel_rfl) (by kernel_rfl) rfl (by kernel_rfl) hs0 (v := ?_) ?_ ?_
      rotate_left
      · (rintro x hx; have k1 := hx.cell cR; have k2 := hx.cell hcellc; clear hx; go_simp; try rfl)
      simp only [Act.put, List.setIfInBounds_toArray, List.set_cons_zero, List.set_cons_succ]
      refine hl_take_np 3 (by kernel_rfl) (by kernel_rfl) rfl (by kernel_rfl) hs0 (v := ?_) ?_ ?_
      rotate_left
      · (rintro x hx; have k1 := hx.cell cR; have k2 := hx.cell hcellc; clear hx; go_simp; try rfl)
      simp only [Act.put, List.setIfInBounds_toArray, List.set_cons_zero, List.set_cons_succ]
      refine hl_take_np 4 (by kernel_rfl) (by kernel_rfl) rfl (by kernel_rfl) hs0 (v := ?_) ?_ ?_
      rotate_left
      · (rintro x hx; have k1 := hx.cell cR; have k2 := hx.cell hcellc; clear hx; go_simp; try rfl)
      simp only [Act.put, List.setIfInBounds_toArray, List.set_cons_zero, List.set_cons_succ]
      refine hl_take_np 5 (by kernel_rfl) (by kernel_rfl) rfl (by kernel_rfl) hs0 (v := ?_) ?_ ?_
      rotate_left
      · (rintro x hx; have k1 := hx.cell cR; have k2 := hx.cell hcellc; clear hx; go_simp; try rfl)
      simp only [Act.put, List.setIfInBounds_toArray, List.set_cons_zero, List.set_cons_succ]
      refine hl_stepW 6 (by kernel_rfl) rfl (by kernel_rfl) ?_
      intro K hK
      go_simp
      refine (sameI_yes (nums L l) (nums L l) o1 o2 _ (by rw [nums_len]; exact (rdr_of_owns HO2.out).g hs0) (by rw [nums_len]; exact HR1r.out.g hs0) (by rw [nums_len]; omega) rfl).mono ?_
      rintro e wf ⟨rfl, hgf⟩
      have hs1 : G wc wf := hs0.trans hgf
      refine hK _ _ (fun _ => hs1) ?_
      clear hK
      simp only [Act.put, List.setIfInBounds_toArray, List.set_cons_zero, List.set_cons_succ]
      refine hl_take_np 7 (by kernel_rfl) (by kernel_rfl) rfl (by kernel_rfl) hs1 (v := ?_) ?_ ?_
      rotate_left
      · (rintro x hx; have k1 := hx.cell cR; have k2 := hx.cell hcellc; clear hx; go_simp; try rfl)
      simp only [Act.put, List.setIfInBounds_toArray, List.set_cons_zero, List.set_cons_succ]
      refine hl_take_np 8 (by kernel_rfl) (by kernel_rfl) rfl (by kernel_rfl) hs1 (v := ?_) ?_ ?_
      rotate_left
      · (rintro x hx; have k1 := hx.cell cR; have k2 := hx.cell hcellc; clear hx; go_simp; try rfl)
      simp only [Act.put, List.setIfInBounds_toArray, List.set_cons_zero, List.set_cons_succ]
      refine hl_take_np 9 (by kernel_rfl) (by kernel_rfl) rfl (by kernel_rfl) hs1 (v := ?_) ?_ ?_
      rotate_left
      · (rintro x hx; have k1 := hx.cell cR; have k2 := hx.cell hcellc; clear hx; go_simp; try rfl)
      simp only [Act.put, List.setIfInBounds_toArray, List.set_cons_zero, List.set_cons_succ]
      refine hl_take_np 10 (by kernel_rfl) (by kernel_rfl) rfl (by kernel_rfl) hs1 (v := ?_) ?_ ?_
      rotate_left
      · (rintro x hx; have k1 := hx.cell cR; have k2 := hx.cell hcellc; clear hx; go_simp; try rfl)
      simp only [Act.put, List.setIfInBounds_toArray, List.set_cons_zero, List.set_cons_succ]
      refine hl_take_np 11 (by kernel_rfl) (by kernel_rfl) rfl (by kernel_rfl) hs1 (v := ?_) ?_ ?_
      rotate_left
      · (rintro x hx; have k1 := hx.cell cR; have k2 := hx.cell hcellc; clear hx; go_simp; try rfl)
      simp only [Act.put, List.setIfInBounds_toArray, List.set_cons_zero, List.set_cons_succ]
      refine hl_take_np 12 (by kernel_rfl) (by kernel_rfl) rfl (by kernel_rfl) hs1 (v := ?_) ?_ ?_
      rotate_left
      · (rintro x hx; have k1 := hx.cell cR; have k2 := hx.cell hcellc; clear hx; go_simp; try rfl)
      simp only [Act.put, List.setIfInBounds_toArray, List.set_cons_zero, List.set_cons_succ]
      refine hl_take_np 13 (by kernel_rfl) (by kernel_rfl) rfl (by kernel_rfl) hs1 (v := ?_) ?_ ?_
      rotate_left
      · (rintro x hx; have k1 := hx.cell cR; have k2 := hx.cell hcellc; clear hx; go_simp; try rfl)
      simp only [Act.put, List.setIfInBounds_toArray, List.set_cons_zero, List.set_cons_succ]
      refine hl_take_np 14 (by kernel_rfl) (by kernel_rfl) rfl (by kernel_rfl) hs1 (v := ?_) ?_ ?_
      rotate_left
      · (rintro x hx; have k1 := hx.cell cR; have k2 := hx.cell hcellc; clear hx; go_simp; try rfl)
      simp only [Act.put, List.setIfInBounds_toArray, List.set_cons_zero, List.set_cons_succ]
      refine hl_take_np 15 (by kernel_rfl) (by kernel_rfl) rfl (by kernel_rfl) hs1 (v := ?_) ?_ ?_
      rotate_left
      · (rintro x hx; have k1 := hx.cell cR; have k2 := hx.cell hcellc; clear hx; go_simp; try rfl)
      simp only [Act.put, List.setIfInBounds_toArray, List.set_cons_zero, List.set_cons_succ]
      refine hl_take_np 16 (by kernel_rfl) (by kernel_rfl) rfl (by kernel_rfl) hs1 (v := ?_) ?_ ?_
      rotate_left
      · (rintro x hx; have k1 := hx.cell cR; have k2 := hx.cell hcellc; clear hx; go_simp; try rfl)
      simp only [Act.put, List.setIfInBounds_toArray, List.set_cons_zero, List.set_cons_succ]
      refine hl_take_np 17 (by kernel_rfl) (by kernel_rfl) rfl (by kernel_rfl) hs1 (v := ?_) ?_ ?_
      rotate_left
      · (rintro x hx; have k1 := hx.cell cR; have k2 := hx.cell hcellc; clear hx; go_simp; try rfl)
      simp only [Act.put, List.setIfInBounds_toArray, List.set_cons_zero, List.set_cons_succ]
      refine hl_take_np 18 (by kernel_rfl) (by kernel_rfl) rfl (by kernel_rfl) hs1 (v := ?_) ?_ ?_
      rotate_left
      · (rintro x hx; have k1 := hx.cell cR; have k2 := hx.cell hcellc; clear hx; go_simp; try rfl)
      simp only [Act.put, List.setIfInBounds_toArray, List.set_cons_zero, List.set_cons_succ]
      refine hl_take_np 19 (by kernel_rfl) (by kernel_rfl) rfl (by kernel_rfl) hs1 (v := ?_) ?_ ?_
      rotate_left
      · (rintro x hx; have k1 := hx.cell cR; have k2 := hx.cell hcellc; clear hx; go_simp; try rfl)
      simp only [Act.put, List.setIfInBounds_toArray, List.set_cons_zero, List.set_cons_succ]
      refine hl_take_np 20 (by kernel_rfl) (by kernel_rfl) rfl (by kernel_rfl) hs1 (v := ?_) ?_ ?_
      rotate_left
      · (rintro x hx; have k1 := hx.cell cR; have k2 := hx.cell hcellc; clear hx; go_simp; try rfl)
      simp only [Act.put, List.setIfInBounds_toArray, List.set_cons_zero, List.set_cons_succ]
      refine hl_take_np 21 (by kernel_rfl) (by kernel_rfl) rfl (by kernel_rfl) hs1 (v := ?_) ?_ ?_
      rotate_left
      · (rintro x hx; have k1 := hx.cell cR; have k2 := hx.cell hcellc; clear hx; go_simp; try rfl)
      simp only [Act.put, List.setIfInBounds_toArray, List.set_cons_zero, List.set_cons_succ]
      refine hl_take_np 22 (by kernel_rfl) (by kernel_rfl) rfl (by kernel_rfl) hs1 (v := ?_) ?_ ?_
      rotate_left
      · (rintro x hx; have k1 := hx.cell cR; have k2 := hx.cell hcellc; clear hx; go_simp; try rfl)
      simp only [Act.put, List.setIfInBounds_toArray, List.set_cons_zero, List.set_cons_succ]
      refine hl_take_np 23 (by kernel_rfl) (by kernel_rfl) rfl (by kernel_rfl) hs1 (v := ?_) ?_ ?_
      rotate_left
      · (rintro x hx; have k1 := hx.cell cR; have k2 := hx.cell hcellc; clear hx; go_simp; try rfl)
      simp only [Act.put, List.setIfInBounds_toArray, List.set_cons_zero, List.set_cons_succ]
      refine hl_take_np 24 (by kernel_rfl) (by kernel_rfl) rfl (by kernel_rfl) hs1 (v := ?_) ?_ ?_
      rotate_left
      · (rintro x hx; have k1 := hx.cell cR; have k2 := hx.cell hcellc; clear hx; go_simp; try rfl)
      simp only [Act.put, List.setIfInBounds_toArray, List.set_cons_zero, List.set_cons_succ]
      refine hl_take_np 25 (by kernel_rfl) (by kernel_rfl) rfl (by kernel_rfl) hs1 (v := ?_) ?_ ?_
      rotate_left
      · (rintro x hx; have k1 := hx.cell cR; have k2 := hx.cell hcellc; clear hx; go_simp; try rfl)
      simp only [Act.put, List.setIfInBounds_toArray, List.set_cons_zero, List.set_cons_succ]
      refine hl_take_np 26 (by kernel_rfl) (by kernel_rfl) rfl (by kernel_rfl) hs1 (v := ?_) ?_ ?_
      rotate_left
      · (rintro x hx; have k1 := hx.cell cR; have k2 := hx.cell hcellc; clear hx; go_simp; try rfl)
      simp only [Act.put, List.setIfInBounds_toArray, List.set_cons_zero, List.set_cons_succ]
      refine hl_take_np 27 (by kernel_rfl) (by kernel_rfl) rfl (by kernel_rfl) hs1 (v := ?_) ?_ ?_
      rotate_left
      · (rintro x hx; have k1 := hx.cell cR; have k2 := hx.cell hcellc; clear hx; go_simp; try rfl)
      simp only [Act.put, List.setIfInBounds_toArray, List.set_cons_zero, List.set_cons_succ]
      refine hl_take_np 28 (by kernel_rfl) (by kernel_rfl) rfl (by kernel_rfl) hs1 (v := ?_) ?_ ?_
      rotate_left
      · (rintro x hx; have k1 := hx.cell cR; have k2 := hx.cell hcellc; clear hx; go_simp; try rfl)
      simp only [Act.put, List.setIfInBounds_toArray, List.set_cons_zero, List.set_cons_succ]
      refine hl_take_np 29 (by kernel_rfl) (by kernel_rfl) rfl (by kernel_rfl) hs1 (v := ?_) ?_ ?_
      rotate_left
      · (rintro x hx; have k1 := hx.cell cR; have k2 := hx.cell hcellc; clear hx; go_simp; try rfl)
      simp only [Act.put, List.setIfInBounds_toArray, List.set_cons_zero, List.set_cons_succ]
      refine hl_take_np 30 (by kernel_rfl) (by kernel_rfl) rfl (by kernel_rfl) hs1 (v := ?_) ?_ ?_
      rotate_left
      · (rintro x hx; have k1 := hx.cell cR; have k2 := hx.cell hcellc; clear hx; go_simp; try rfl)
      simp only [Act.put, List.setIfInBounds_toArray, List.set_cons_zero, List.set_cons_succ]
      refine hl_take_np 32 (by kernel_rfl) (by kernel_rfl) rfl (by kernel_rfl) hs1 (v := ?_) ?_ ?_
      rotate_left
      · (rintro x hx; have k1 := hx.cell cR; have k2 := hx.cell hcellc; clear hx; go_simp; try rfl)
      simp only [Act.put, List.setIfInBounds_toArray, List.set_cons_zero, List.set_cons_succ]
      refine hl_take_np 33 (by kernel_rfl) (by kernel_rfl) rfl (by kernel_rfl) hs1 (v := ?_) ?_ ?_
      rotate_left
      · (rintro x hx; have k1 := hx.cell cR; have k2 := hx.cell hcellc; clear hx; go_simp; try rfl)
      simp only [Act.put, List.setIfInBounds_toArray, List.set_cons_zero, List.set_cons_succ]
      refine hl_take_np 34 (by kernel_rfl) (by kernel_rfl) rfl (by kernel_rfl) hs1 (v := ?_) ?_ ?_
      rotate_left
      · (rintro x hx; have k1 := hx.cell cR; have k2 := hx.cell hcellc; clear hx; go_simp; try rfl)
      simp only [Act.put, List.setIfInBounds_toArray, List.set_cons_zero, List.set_cons_succ]
      refine hl_take_np 35 (by kernel_rfl) (by kernel_rfl) rfl (by kernel_rfl) hs1 (v := ?_) ?_ ?_
      rotate_left
      · (rintro x hx; have k1 := hx.cell cR; have k2 := hx.cell hcellc; clear hx; go_simp; try rfl)
      simp only [Act.put, List.setIfInBounds_toArray, List.set_cons_zero, List.set_cons_succ]
      refine hl_take_np 36 (by kernel_rfl) (by kernel_rfl) rfl (by kernel_rfl) hs1 (v := ?_) ?_ ?_
      rotate_left
      · (rintro x hx; have k1 := hx.cell cR; have k2 := hx.cell hcellc; clear hx; go_simp; try rfl)
      simp only [Act.put, List.setIfInBounds_toArray, List.set_cons_zero, List.set_cons_succ]
      refine hl_stepW 31 (by kernel_rfl) rfl (by kernel_rfl) ?_
      intro K hK
      go_simp
      refine (len_any S1 B M wf (HB2.out.g hs1)).mono ?_
      rintro e wf' ⟨rfl, rfl⟩
      refine hK _ _ (fun _ => hs1) ?_
      clear hK
      simp only [Act.put, List.setIfInBounds_toArray, List.set_cons_zero, List.set_cons_succ]
      refine hl_take_np 37 (by kernel_rfl) (by kernel_rfl) rfl (by kernel_rfl) hs1 (v := ?_) ?_ ?_
      rotate_left
      · (rintro x hx; have k1 := hx.cell cR; have k2 := hx.cell hcellc; clear hx; go_simp; try rfl)
      simp only [Act.put, List.setIfInBounds_toArray, List.set_cons_zero, List.set_cons_succ]
      refine hl_take_np 38 (by kernel_rfl) (by kernel_rfl) rfl (by kernel_rfl) hs1 (v := ?_) ?_ ?_
      rotate_left
      · (rintro x hx; have k1 := hx.cell cR; have k2 := hx.cell hcellc; clear hx; go_simp; try rfl)
      simp only [Act.put, List.setIfInBounds_toArray, List.set_cons_zero, List.set_cons_succ]
      refine hl_take_np 39 (by kernel_rfl) (by kernel_rfl) rfl (by kernel_rfl) hs1 (v := ?_) ?_ ?_
      rotate_left
      · (rintro x hx; have k1 := hx.cell cR; have k2 := hx.cell hcellc; clear hx; go_simp; try rfl)
      simp only [Act.put, List.setIfInBounds_toArray, List.set_cons_zero, List.set_cons_succ]
      refine hl_take_np 40 (by kernel_rfl) (by kernel_rfl) rfl (by kernel_rfl) hs1 (v := ?_) ?_ ?_
      rotate_left
      · (rintro x hx; have k1 := hx.cell cR; have k2 := hx.cell hcellc; clear hx; go_simp; try rfl)
      simp only [Act.put, List.setIfInBounds_toArray, List.set_cons_zero, List.set_cons_succ]
      refine hl_take_np 41 (by kernel_rfl) (by kernel_rfl) rfl (by kernel_rfl) hs1 (v := ?_) ?_ ?_
      rotate_left
      · (rintro x hx; have k1 := hx.cell cR; have k2 := hx.cell hcellc; clear hx; go_simp; try rfl)
      simp only [Act.put, List.setIfInBounds_toArray, List.set_cons_zero, List.set_cons_succ]
      refine hl_take_np 42 (by kernel_rfl) (by kernel_rfl) rfl (by kernel_rfl) hs1 (v := ?_) ?_ ?_
      rotate_left
      · (rintro x hx; have k1 := hx.cell cR; have k2 := hx.cell hcellc; clear hx; go_simp; try rfl)
      simp only [Act.put, List.setIfInBounds_toArray, List.set_cons_zero, List.set_cons_succ]
      refine hl_take_np 43 (by kernel_rfl) (by kernel_rfl) rfl (by kernel_rfl) hs1 (v := ?_) ?_ ?_
      rotate_left
      · (rintro x hx; have k1 := hx.cell cR; have k2 := hx.cell hcellc; clear hx; go_simp; try rfl)
      simp only [Act.put, List.setIfInBounds_toArray, List.set_cons_zero, List.set_cons_succ]
      refine hl_take_np 44 (by kernel_rfl) (by kernel_rfl) rfl (by kernel_rfl) hs1 (v := ?_) ?_ ?_
      rotate_left
      · (rintro x hx; have k1 := hx.cell cR; have k2 := hx.cell hcellc; clear hx; go_simp; try rfl)
      simp only [Act.put, List.setIfInBounds_toArray, List.set_cons_zero, List.set_cons_succ]
      refine hl_stepW 45 (by kernel_rfl) rfl (by kernel_rfl) ?_
      intro K hK
      go_simp
      refine (keptT_yes l u _ _ wf (HL2.out.fr (hs1.fr (fun _ => False)) (fun _ _ h => h)) (HROW0.out.g (hgc.trans hs1)) (by omega)).mono ?_
      rintro e wi ⟨rfl, hgi⟩
      have hs2 : G wc wi := hs1.trans hgi
      refine hK _ _ (fun _ => hs2) ?_
      clear hK
      simp only [Act.put, List.setIfInBounds_toArray, List.set_cons_zero, List.set_cons_succ]
      refine hl_take_np 46 (by kernel_rfl) (by kernel_rfl) rfl (by kernel_rfl) hs2 (v := ?_) ?_ ?_
      rotate_left
      · (rintro x hx; have k1 := hx.cell cR; have k2 := hx.cell hcellc; clear hx; go_simp; try rfl)
      simp only [Act.put, List.setIfInBounds_toArray, List.set_cons_zero, List.set_cons_succ]
      refine hl_take_np 47 (by kernel_rfl) (by kernel_rfl) rfl (by kernel_rfl) hs2 (v := ?_) ?_ ?_
      rotate_left
      · (rintro x hx; have k1 := hx.cell cR; have k2 := hx.cell hcellc; clear hx; go_simp; try rfl)
      simp only [Act.put, List.setIfInBounds_toArray, List.set_cons_zero, List.set_cons_succ]
      refine hl_done (by kernel_rfl) ?_ _
      refine NoPanic.normal ?_
      have HGI := Lib.hid hs2
      have HDS := Lib.hid (fun q hq => (HS1.out q hq).elim (fun h => .inl (HB.out.ltS h)) .inr : ∀ q, S1 q → q < wr.heap.size ∨ wa.heap.size ≤ q)
      have HDT := Lib.hid (fun q hq => (HT1.out q hq).elim (fun h => .inl (HR.out.ltS h)) .inr : ∀ q, T1 q → q < wr.heap.size ∨ wb.heap.size ≤ q)
      have hgi := hgc.trans hs2
      clear hs0 hs1 hs2 hgf
      go_wp2_with fail
      refine (overT_any u l.length _ _ wi ((HL2.out.own (by simp [strs])).elim fun a b => (HGI.out.ownsRow (HL2.out.own (by simp [strs])))) (by omega)).mono ?_
      rintro e wj ⟨⟨uu, rfl⟩, hfj⟩
      have HFJ := Lib.hid hfj
      clear hfj
      have HOJ := Lib.hid (HFJ.out.ownsRow (HGI.out.ownsRow HO2.out) (fun g hg h => by have := (HO1.out.lt g hg).1; have := (HLE.out.lt g h).2; omega))
      go_wp2_with fail
      refine (overI_any o1 l.length _ _ wj HOJ.out (by omega)).mono ?_
      rintro e wk ⟨⟨uv, rfl⟩, hfk⟩
      have HFK := Lib.hid hfk
      have HZ := Lib.hid (And.intro hMl (And.intro hsa (And.intro hsb (And.intro hsc (And.intro hll (And.intro hgi hg))))))
      clear hfk hMl hsa hsb hsc hll hgi hg hga hgb hgc hg1 hg2 hs1 hs2 htot hs cR hcellc
      go_wp2_with fail
      go_roundw
      case rel =>
        obtain ⟨hMl, hsa, hsb, hsc, hll, hgi, hg⟩ := HZ.out
        refine ⟨k + 1, M, S1, T1, by omega, by go_num, ?_, ?_, ?_, ?_, ?_, ?_, ?_⟩
        · exact (by have := HTOT.out; omega : M.length ≤ tot (ls.take (k + 1)))
        · exact (((HB2.out.g HGI.out).fr HFJ.out (fun q hq h => by have := (HLE.out.lt q h).1; have := (HLE.out.lt q h).2; have := HDS.out q hq; omega)).fr HFK.out (fun q hq h => HD1.out q h hq) : Bk S1 wk B M)
        · exact (((HR2.out.g HGI.out).fr HFJ.out (fun q hq h => by have := (HLE.out.lt q h).1; have := (HLE.out.lt q h).2; have := HDT.out q hq; omega)).fr HFK.out (fun q hq h => by have := (HO1.out.lt q h).1; have := (HO1.out.lt q h).2; have := HDT.out q hq; omega) : RBk T1 wk R M)
        · exact (fun q hq => (HS1.out q hq).elim (HS.out q) (fun h => by have := hg.size; omega) : ∀ q, S1 q → w.heap.size ≤ q)
        · exact (fun q hq => (HT1.out q hq).elim (HT.out q) (fun h => by have := hg.size; omega) : ∀ q, T1 q → w.heap.size ≤ q)
        · exact (fun q hq hq' => by
            have hlt1 := HB1.out.ltS hq
            rcases HT1.out q hq' with h | h
            · rcases HS1.out q hq with h' | h'
              · exact HST.out q h' h
              · have := HR.out.ltS h; omega
            · omega : ∀ q, S1 q → ¬ T1 q)
        · exact g_of_fr (g_of_fr hgi HFJ.out (fun q h => by have := (HLE.out.lt q h).1; have := hg.size; omega)) HFK.out (fun q h => by have := (HO1.out.lt q h).1; have := hg.size; omega)
      case measure => simp [intOf]; omega

    · obtain rfl : k = m := by omega
      have hLn := HLn.out
      rw [show ls.take k = ls from List.take_of_length_le (by have := HM.out; omega)] at hLn
      have hL4 : L.length ≤ 400 := by omega
      clear hLn
      obtain ⟨rv, hRb, hRo, -⟩ := HR.out
      have hRx : Boxed wr R 44 rv := hRb
      obtain ⟨rp, rc, rfl⟩ := ownsRow_shape hRo
      have cR := hRx.cell
      have HRO := Lib.hid (rdr_of_owns hRo)
      clear hRb hRo hRx
      go_upto_region 18 with fail
      refine region_hl (fun w' => G wr w') 99 11 (by kernel_rfl) rfl ?_
      simp only [List.replicate_succ, List.replicate_zero]
      have hs0 : (fun w' => G wr w') wr.drew := (G.refl wr).drew
      refine hl_take_np 0 (by kernel_rfl) (by kernel_rfl) rfl (by kernel_rfl) hs0 (v := ?_) ?_ ?_
      rotate_left
      · (rintro x hx; have k1 := hx.cell cR; clear hx; go_simp; try rfl)
      simp only [Act.put, List.setIfInBounds_toArray, List.set_cons_zero, List.set_cons_succ]
      refine hl_take_np 2 (by kernel_rfl) (by kernel_rfl) rfl (by kernel_rfl) hs0 (v := ?_) ?_ ?_
      rotate_left
      · (rintro x hx; have k1 := hx.cell cR; clear hx; go_simp; try rfl)
      simp only [Act.put, List.setIfInBounds_toArray, List.set_cons_zero, List.set_cons_succ]
      refine hl_take_np 3 (by kernel_rfl) (by kernel_rfl) rfl (by kernel_rfl) hs0 (v := ?_) ?_ ?_
      rotate_left
      · (rintro x hx; have k1 := hx.cell cR; clear hx; go_simp; try rfl)
      simp only [Act.put, List.setIfInBounds_toArray, List.set_cons_zero, List.set_cons_succ]
      refine hl_take_np 4 (by kernel_rfl) (by kernel_rfl) rfl (by kernel_rfl) hs0 (v := ?_) ?_ ?_
      rotate_left
      · (rintro x hx; have k1 := hx.cell cR; clear hx; go_simp; try rfl)
      simp only [Act.put, List.setIfInBounds_toArray, List.set_cons_zero, List.set_cons_succ]
      refine hl_take_np 5 (by kernel_rfl) (by kernel_rfl) rfl (by kernel_rfl) hs0 (v := ?_) ?_ ?_
      rotate_left
      · (rintro x hx; have k1 := hx.cell cR; clear hx; go_simp; try rfl)
      simp only [Act.put, List.setIfInBounds_toArray, List.set_cons_zero, List.set_cons_succ]
      refine hl_stepW 1 (by kernel_rfl) rfl (by kernel_rfl) ?_
      intro K hK
      go_simp
      refine (all_any S B L _ (HB.out.g hs0) hL4).mono ?_
      rintro e wf ⟨av, rfl, hav, hgf⟩
      have hs1 : G wr wf := hs0.trans hgf
      have HAV := Lib.hid (rdr_of_owns hav)
      clear hav
      refine hK _ _ (fun _ => hs1) ?_
      clear hK
      simp only [Act.put, List.setIfInBounds_toArray, List.set_cons_zero, List.set_cons_succ]
      refine hl_stepW 6 (by kernel_rfl) rfl (by kernel_rfl) ?_
      intro K hK
      go_simp
      refine (sameT_yes L L _ _ wf HAV.out (HRO.out.g hs1) (by omega) rfl).mono ?_
      rintro e wh ⟨rfl, hgh⟩
      have hs2 : G wr wh := hs1.trans hgh
      refine hK _ _ (fun _ => hs2) ?_
      clear hK
      simp only [Act.put, List.setIfInBounds_toArray, List.set_cons_zero, List.set_cons_succ]
      refine hl_take_np 7 (by kernel_rfl) (by kernel_rfl) rfl (by kernel_rfl) hs2 (v := ?_) ?_ ?_
      rotate_left
      · (rintro x hx; have k1 := hx.cell cR; clear hx; go_simp; try rfl)
      simp only [Act.put, List.setIfInBounds_toArray, List.set_cons_zero, List.set_cons_succ]
      refine hl_stepW 8 (by kernel_rfl) rfl (by kernel_rfl) ?_
      intro K hK
      go_simp
      refine (awake_any wh).mono ?_
      rintro e wi ⟨rfl, hgi⟩
      have hs3 : G wr wi := hs2.trans hgi
      refine hK _ _ (fun _ => hs3) ?_
      clear hK
      simp only [Act.put, List.setIfInBounds_toArray, List.set_cons_zero, List.set_cons_succ]
      refine hl_take_np 9 (by kernel_rfl) (by kernel_rfl) rfl (by kernel_rfl) hs3 (v := ?_) ?_ ?_
      rotate_left
      · (rintro x hx; have k1 := hx.cell cR; clear hx; go_simp; try rfl)
      simp only [Act.put, List.setIfInBounds_toArray, List.set_cons_zero, List.set_cons_succ]
      refine hl_take_np 10 (by kernel_rfl) (by kernel_rfl) rfl (by kernel_rfl) hs3 (v := ?_) ?_ ?_
      rotate_left
      · (rintro x hx; have k1 := hx.cell cR; clear hx; go_simp; try rfl)
      simp only [Act.put, List.setIfInBounds_toArray, List.set_cons_zero, List.set_cons_succ]
      refine hl_done (by kernel_rfl) ?_ _
      refine NoPanic.normal ?_
      go_wp2_with fail
      go_ret
      exact ⟨rfl, hg.trans hs3⟩

end Go.Proofs.Ytamhlflacnldfaa
