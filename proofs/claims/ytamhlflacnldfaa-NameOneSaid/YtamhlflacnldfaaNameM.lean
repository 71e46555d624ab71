/- NameOne: the walk -/
import Derived.Test.YtamhlflacnldfaaNameK
namespace Go.Proofs.Ytamhlflacnldfaa
set_option linter.unusedVariables false
set_option linter.unusedSimpArgs false
open Go.RowKit Go.Shelf Go.Maps

theorem textV_num {M : List ByteArray} {s : ByteArray} (h : inL s M = true) : textV M (num M s) = .tuple #[.string s, .bool true] := by
  have hlt : M.findIdx (fun x => decide (x = s)) < M.length := List.findIdx_lt_length_of_exists ⟨s, inL_iff.1 h, by simp⟩
  have hg : M[M.findIdx (fun x => decide (x = s))] = s := by simpa using List.findIdx_getElem (w := hlt)
  rw [num, if_pos h, textV, if_pos ⟨by omega, by omega⟩]
  simp only [Int.toNat_natCast, List.getD_eq_getElem?_getD, List.getElem?_eq_getElem hlt, hg, Option.getD_some]
theorem textV_end (M : List ByteArray) : textV M M.length = .tuple #[.string ⟨#[]⟩, .bool false] := by rw [textV, if_neg (by omega)]
theorem nums_at {L ss : List ByteArray} {k : Nat} {s : ByteArray} (h : ss[k]? = some s) : (ints (nums L ss))[k]? = some (.int .i64 (num (L ++ fresh L ss) s)) := by
  simp [ints, nums, h]
theorem rdr_take {W : World} {p : Option Addr} {n c k : Nat} {xs : List Value} (h : Rdr W 1 (.slice p n c) n xs) (hk : k ≤ n) : Rdr W 1 (.slice p k c) k (xs.take k) := by
  obtain ⟨p', c', he, hl, hc⟩ := h.at
  cases he
  refine ⟨by simp; omega, _, _, rfl, fun h0 => ?_⟩
  obtain ⟨b, o, rfl, hcell⟩ := hc (by omega)
  refine ⟨b, o, rfl, fun j u hu => hcell j u ?_⟩
  have hj : j < k := by have := (List.getElem?_eq_some_iff.1 hu).1; simp at this; omega
  rwa [List.getElem?_take_of_lt hj] at hu
theorem Bk.nodup {S : Nat → Prop} {W : World} {B : Nat} {L : List ByteArray} (h : Bk S W B L) : L.Nodup := by
  obtain ⟨bm, v, D, base, h1, h2, h3, h4, h5, -⟩ := h
  exact h5

set_option maxRecDepth 10000 in
set_option maxHeartbeats 1000000 in
theorem one_any (ls : List (List ByteArray)) (v : Value) (w : World) (hv : RdrRows w v ls) (h1 : ls.length ≤ 8796093022208) (h2 : ∀ l ∈ ls, l.length ≤ 8796093022208) (h3 : ∀ l ∈ ls, ∀ s ∈ l, s.size ≤ maxLen) :
    Calls Try.prog 5 #[v] w fun e w' => e = .returned (.bool true) ∧ G w w' := by
  obtain ⟨p, c, rfl⟩ := hv.shape
  have H2 := Lib.hid h2
  have H3 := Lib.hid h3
  obtain ⟨m, hm⟩ : ∃ m, m = ls.length := ⟨_, rfl⟩
  have hv0 := hv
  rw [← hm] at h1
  have HM := Lib.hid hm
  go_enter Try.func5, Try.ntmps5
  go_wp2_with fail
  refine (awake_any w).mono ?_
  rintro e w0 ⟨rfl, hg0⟩
  have hsize := size_any ls _ w0 (hv.g hg0) (by omega) h2
  have HV := Lib.hid hv0
  simp only [← hm] at hsize ⊢
  clear hv h2 h3 hm hv0
  go_wp2_with fail
  refine hsize.mono ?_
  clear hsize
  rintro e w0' ⟨z, rfl, hz, rfl⟩
  by_cases hz4 : (400 : Int) < z
  · clear hz
    go_wp2_with fail
    go_ret
    exact ⟨rfl, hg0⟩
  · have htot := hz (by omega)
    have hd : decide ((400 : Int) < z) = false := by simpa using hz4
    clear hz hz4
    go_wp2_with fail
    refine (new_any w0).mono ?_
    rintro e w1 ⟨B, rfl, hb, hg1⟩
    have hs1 := hg1.size
    have hs0 := hg0.size
    have HB := Lib.hid hb
    have hgw : G w w1 := hg0.trans hg1
    clear hb hd
    go_wp2_with fail
    go_loopw [4, 5] (fun was i wr => ∃ (k : Nat) (L : List ByteArray) (S : Nat → Prop), k ≤ m ∧ i = .int .i64 k ∧ Hid (L.length ≤ tot (ls.take k)) ∧ Hid (Bk S wr B L) ∧ Hid (∀ q, S q → w.heap.size ≤ q) ∧ Hid (wr.ownsRow w.heap.size 9 1 was L.length (strs L)) ∧ Hid (∀ g, was.ownBlock = some g → ¬ S g) ∧ G w wr) (fun _ i _ => m - (intOf i).toNat)
    case atStart =>
      exact ⟨0, [], _, by omega, rfl, (by simp : ([] : List ByteArray).length ≤ tot (ls.take 0)), HB, (fun q h => by have := h.1; omega : ∀ q, (w0.heap.size ≤ q ∧ q < w1.heap.size) → w.heap.size ≤ q), (World.ownsRow_nil _ _ _ _ : w1.ownsRow w.heap.size 9 1 (.slice none 0 0) 0 []),
        (fun g h => (by cases h) : ∀ g, (Value.slice none 0 0).ownBlock = some g → ¬ (w0.heap.size ≤ g ∧ g < w1.heap.size)), hgw⟩
    case round =>
    clear HB hgw
    obtain ⟨k, L, S, hk, rfl, HLn, HB, HS, HW, HWS, hg⟩ := hrel
    by_cases hlt : k < m
    · obtain ⟨b, o, l, q, d, rfl, hl, hcell0, hrow0⟩ := HV.out.row (i := k) (by have := HM.out; omega)
      have hcell := hg.cell hcell0
      have hTS := tot_snoc hl
      have hTL := tot_take_le ls (k + 1)
      have hLn := HLn.out
      have hll : L.length + l.length ≤ 400 := by omega
      have HTOT := Lib.hid (show L.length + l.length ≤ tot (ls.take (k + 1)) by omega)
      have HSS := Lib.hid (H3.out l (List.mem_of_getElem? hl))
      have HC0 := Lib.hid hcell0
      have HROW0 := Lib.hid hrow0
      clear hl hTS hTL hLn hcell0 hrow0
      go_wp2_with fail
      refine (of_small S B L l _ wr (HROW0.out.g hg) HB.out (fun h0 g hg' h => ?_) HSS.out (by omega)).mono ?_
      · have := HROW0.out.lt h0 (by omega) g hg'
        have := HS.out g h
        omega
      rintro e wb ⟨o1, S1, rfl, ho1, hb1, hS1, hd1, hF1⟩
      obtain ⟨xp, xc, rfl⟩ := ownsRow_shape ho1
      have hsb := hF1.size
      obtain ⟨M, hM⟩ : ∃ M, M = L ++ fresh L l := ⟨_, rfl⟩
      have hMl : M.length ≤ L.length + l.length := by rw [hM, List.length_append]; have := fresh_len L l; omega
      have hML : L.length ≤ M.length := by rw [hM, List.length_append]; omega
      rw [← hM] at hb1
      have HX := Lib.hid (rdr_of_owns ho1)
      have HB1 := Lib.hid hb1
      have HS1 := Lib.hid (fun q hq => (hS1 q hq).elim (HS.out q) (fun h => by have := hg.size; omega) : ∀ q, S1 q → w.heap.size ≤ q)
      have hgb : G w wb := g_of_fr hg hF1 HS.out
      have HWb := Lib.hid (hF1.ownsRow HW.out (fun g hg' h => HWS.out g hg' h))
      have hcellb := hgb.cell HC0.out
      have HM2 := Lib.hid hM
      clear ho1 hb1 hS1 hd1 hF1 hcell hM
      obtain ⟨wp, wc, rfl⟩ := ownsRow_shape HWb.out
      obtain ⟨nl, hnl⟩ : ∃ nl, nl = l.length := ⟨_, rfl⟩
      simp only [← hnl] at hcellb ⊢
      have HNL := Lib.hid hnl
      rw [← hnl] at hll hMl
      have hnll : nl ≤ 400 := by omega
      clear hnl
      go_wp2_with fail
      go_loop [8] (fun i => ∃ j : Nat, j ≤ nl ∧ i = .int .i64 j) (fun i => nl - (intOf i).toNat)
      case atStart => exact ⟨0, by omega, rfl⟩
      case round =>
        obtain ⟨j, hj, rfl⟩ := hrel
        by_cases hlt2 : j < nl
        · obtain ⟨b2, o2, rfl, hc2⟩ := HROW0.out.one (by have := HNL.out; omega)
          obtain ⟨b3, o3, rfl, hc3⟩ := HX.out.one (by have := HNL.out; omega)
          obtain ⟨s, hs⟩ : ∃ s, l[j]? = some s := ⟨l[j]'(by have := HNL.out; omega), List.getElem?_eq_getElem _⟩
          have cs := hgb.cell (hc2 j _ (strs_get hs))
          have cx := hc3 j _ (nums_at hs)
          rw [← HM2.out] at cx
          have hin : inL s M = true := by rw [HM2.out]; exact fresh_all (List.mem_of_getElem? hs)
          have htext := text_any S1 B M (num M s) wb HB1.out
          rw [textV_num hin] at htext
          have hfind := find_any S1 B M s wb HB1.out (HSS.out s (List.mem_of_getElem? hs))
          rw [hin] at hfind
          generalize num M s = nu at htext hfind cx
          have HTX := Lib.hid htext
          have HFN := Lib.hid hfind
          clear htext hfind hin hs hc2 hc3
          go_wp2_with fail
          refine HTX.out.mono ?_
          rintro e we ⟨rfl, rfl⟩
          go_wp2_with fail
          refine HFN.out.mono ?_
          rintro e we ⟨rfl, rfl⟩
          go_wp2_with fail
          go_round
          case rel => exact ⟨j + 1, by omega, by go_num⟩
          case measure => simp [intOf]; omega
        · obtain rfl : j = nl := by omega
          go_wp2_with fail
          refine (all_any S1 B M wb HB1.out (by omega)).mono ?_
          rintro e wd ⟨nv, rfl, hnow, hgd⟩
          obtain ⟨np, nc, rfl⟩ := ownsRow_shape hnow
          have hcap := ownsRow_cap hnow
          have HNOW := Lib.hid hnow
          have HBd := Lib.hid (HB1.out.g hgd)
          have HWd := Lib.hid (rdr_of_owns (hgd.ownsRow HWb.out))
          have hgD := hgb.trans hgd
          have hsd := hgd.size
          clear hnow
          go_wp2_with fail
          refine (len_any S1 B M wd HBd.out).mono ?_
          rintro e we ⟨rfl, rfl⟩
          have hd1 : decide (M.length < L.length) = false := by simp; omega
          have hc0 : (0 : Int) ≤ (L.length : Int) := by omega
          have hc1 : (L.length : Int) ≤ (nc : Int) := by omega
          go_wp2_with fail
          have htk : (strs M).take L.length = strs L := by rw [HM2.out, strs, List.map_append, List.take_left' (by simp)]; rfl
          have HPR := Lib.hid (rdr_take (rdr_of_owns HNOW.out) hML)
          rw [htk] at HPR
          refine (sameT_yes L L _ _ wd HPR.out HWd.out (by omega) rfl).mono ?_
          rintro e wf ⟨rfl, hgf⟩
          have HGF := Lib.hid hgf
          have HZ := Lib.hid (And.intro hMl (And.intro hsb (And.intro hsd (And.intro hgD hg))))
          clear htk hgf hcap hMl hML hsb hsd hgD hg hgd hcellb hgb hll hnll htot
          go_wp2_with fail
          go_roundw
          case rel =>
            obtain ⟨hMl, hsb, hsd, hgD, hg⟩ := HZ.out
            refine ⟨k + 1, M, S1, by omega, by go_num, ?_, ?_, ?_, ?_, ?_, ?_⟩
            · exact (by have := HTOT.out; have := HNL.out; omega : M.length ≤ tot (ls.take (k + 1)))
            · exact (HBd.out.g HGF.out : Bk S1 wf B M)
            · exact HS1.out
            · exact (ownsRow_mono (HGF.out.ownsRow HNOW.out) (by have := hg.size; omega) : wf.ownsRow w.heap.size 9 1 (.slice np M.length nc) M.length (strs M))
            · exact (fun g hg' h => by have := (HNOW.out.lt g hg').1; have := HB1.out.ltS h; omega : ∀ g, (Value.slice np M.length nc).ownBlock = some g → ¬ S1 g)
            · exact hgD.trans HGF.out
          case measure => simp [intOf]; omega
    · obtain rfl : k = m := by omega
      have hLn := HLn.out
      rw [show ls.take k = ls from List.take_of_length_le (by have := HM.out; omega)] at hLn
      have hL4 : L.length ≤ 400 := by omega
      obtain ⟨n, hn⟩ : ∃ n, n = L.length := ⟨_, rfl⟩
      obtain ⟨wp, wc, rfl⟩ := ownsRow_shape HW.out
      have HR := Lib.hid (rdr_of_owns HW.out)
      have HN := Lib.hid hn
      simp only [← hn] at hL4 ⊢
      clear hLn hn htot
      obtain ⟨WA, rfl⟩ : ∃ WA : World, WA = wr := ⟨_, rfl⟩
      go_wp2_with fail
      go_loopw [14] (fun i wr' => ∃ j : Nat, j ≤ n ∧ i = .int .i64 j ∧ G WA wr') (fun i _ => n - (intOf i).toNat)
      case atStart => exact ⟨0, by omega, rfl, G.refl _⟩
      case round =>
        obtain ⟨j, hj, rfl, hgr⟩ := hrel
        by_cases hjn : j < n
        · obtain ⟨b, o, rfl, hc⟩ := HR.out.one (by have := HN.out; omega)
          obtain ⟨x, hx⟩ : ∃ x, L[j]? = some x := ⟨L[j]'(by have := HN.out; omega), List.getElem?_eq_getElem _⟩
          have cx := hc j _ (strs_get hx)
          have HXJ := Lib.hid hx
          clear hc hx
          go_wp2_with fail
          go_loopw [15] (fun i wr' => ∃ t : Nat, t ≤ j ∧ i = .int .i64 t ∧ G WA wr') (fun i _ => j - (intOf i).toNat)
          case atStart => exact ⟨0, by omega, rfl, hgr⟩
          case round =>
            obtain ⟨t, ht, rfl, hgt⟩ := hrel
            by_cases htj : t < j
            · obtain ⟨b', o', he, hc⟩ := HR.out.one (by have := HN.out; omega)
              cases he
              obtain ⟨y, hy⟩ : ∃ y, L[t]? = some y := ⟨L[t]'(by have := HN.out; omega), List.getElem?_eq_getElem _⟩
              have cy := hc t _ (strs_get hy)
              have hne : x ≠ y := by
                have h1 := HXJ.out
                obtain ⟨h1a, h1b⟩ := List.getElem?_eq_some_iff.1 h1
                obtain ⟨h2a, h2b⟩ := List.getElem?_eq_some_iff.1 hy
                have := List.pairwise_iff_getElem.1 HB.out.nodup t j h2a h1a htj
                rw [h1b, h2b] at this
                exact Ne.symm this
              have hst := str_ne hne
              have c1 := hgt.cell cx
              have c2 := hgt.cell cy
              have htn : t < n := by omega
              clear hc hy hne
              go_upto_region 30 with fail
              refine region_hl (fun w' => G wr w') 99 9 (by kernel_rfl) rfl ?_
              simp only [List.replicate_succ, List.replicate_zero]
              have hs0 : (fun w' => G wr w') (World.drew wr) := (G.refl _).drew
              refine hl_take_np 0 (by kernel_rfl) (by kernel_rfl) rfl (by kernel_rfl) hs0 (v := ?_) ?_ ?_
              rotate_left
              · (rintro x hx; have k1 := hx.cell c1; have k2 := hx.cell c2; clear hx; go_simp; try rfl)
              simp only [Act.put, List.setIfInBounds_toArray, List.set_cons_zero, List.set_cons_succ]
              refine hl_take_np 1 (by kernel_rfl) (by kernel_rfl) rfl (by kernel_rfl) hs0 (v := ?_) ?_ ?_
              rotate_left
              · (rintro x hx; have k1 := hx.cell c1; have k2 := hx.cell c2; clear hx; go_simp; try rfl)
              simp only [Act.put, List.setIfInBounds_toArray, List.set_cons_zero, List.set_cons_succ]
              refine hl_take_np 2 (by kernel_rfl) (by kernel_rfl) rfl (by kernel_rfl) hs0 (v := ?_) ?_ ?_
              rotate_left
              · (rintro x hx; have k1 := hx.cell c1; have k2 := hx.cell c2; clear hx; go_simp; try rfl)
              simp only [Act.put, List.setIfInBounds_toArray, List.set_cons_zero, List.set_cons_succ]
              refine hl_take_np 3 (by kernel_rfl) (by kernel_rfl) rfl (by kernel_rfl) hs0 (v := ?_) ?_ ?_
              rotate_left
              · (rintro x hx; have k1 := hx.cell c1; have k2 := hx.cell c2; clear hx; go_simp; try rfl)
              simp only [Act.put, List.setIfInBounds_toArray, List.set_cons_zero, List.set_cons_succ]
              refine hl_take_np 4 (by kernel_rfl) (by kernel_rfl) rfl (by kernel_rfl) hs0 (v := ?_) ?_ ?_
              rotate_left
              · (rintro x hx; have k1 := hx.cell c1; have k2 := hx.cell c2; clear hx; go_simp; try rfl)
              simp only [Act.put, List.setIfInBounds_toArray, List.set_cons_zero, List.set_cons_succ]
              refine hl_take_np 5 (by kernel_rfl) (by kernel_rfl) rfl (by kernel_rfl) hs0 (v := ?_) ?_ ?_
              rotate_left
              · (rintro x hx; have k1 := hx.cell c1; have k2 := hx.cell c2; clear hx; go_simp; try rfl)
              simp only [Act.put, List.setIfInBounds_toArray, List.set_cons_zero, List.set_cons_succ]
              refine hl_take_np 6 (by kernel_rfl) (by kernel_rfl) rfl (by kernel_rfl) hs0 (v := ?_) ?_ ?_
              rotate_left
              · (rintro x hx; have k1 := hx.cell c1; have k2 := hx.cell c2; clear hx; go_simp; try rfl)
              simp only [Act.put, List.setIfInBounds_toArray, List.set_cons_zero, List.set_cons_succ]
              refine hl_take_np 7 (by kernel_rfl) (by kernel_rfl) rfl (by kernel_rfl) hs0 (v := ?_) ?_ ?_
              rotate_left
              · (rintro x hx; have k1 := hx.cell c1; have k2 := hx.cell c2; clear hx; go_simp; try rfl)
              simp only [Act.put, List.setIfInBounds_toArray, List.set_cons_zero, List.set_cons_succ]
              refine hl_take_np 8 (by kernel_rfl) (by kernel_rfl) rfl (by kernel_rfl) hs0 (v := ?_) ?_ ?_
              rotate_left
              · (rintro x hx; have k1 := hx.cell c1; have k2 := hx.cell c2; clear hx; go_simp; try rfl)
              simp only [Act.put, List.setIfInBounds_toArray, List.set_cons_zero, List.set_cons_succ]
              refine hl_done (by kernel_rfl) ?_ _
              refine NoPanic.normal ?_
              have hgt' := hgt.trans hs0
              clear hs0 hgt c1 c2 hst
              go_wp2_with fail
              go_roundw
              case rel => exact ⟨t + 1, by omega, by go_num, hgt'⟩
              case measure => simp [intOf]; omega
            · obtain rfl : t = j := by omega
              go_wp2_with fail
              go_roundw
              case rel => exact ⟨t + 1, by omega, by go_num, hgt⟩
              case measure => simp [intOf]; omega
        · obtain rfl : j = n := by omega
          have HBf := Lib.hid (HB.out.g hgr)
          have hlen := len_any S B L _ HBf.out
          have htext := text_any S B L L.length _ HBf.out
          rw [textV_end, ← HN.out] at htext
          rw [← HN.out] at hlen
          have HLEN := Lib.hid hlen
          have HTXT := Lib.hid htext
          clear hlen htext
          go_wp2_with fail
          refine HLEN.out.mono ?_
          rintro e we ⟨rfl, rfl⟩
          go_wp2_with fail
          refine HTXT.out.mono ?_
          rintro e we ⟨rfl, rfl⟩
          go_wp2_with fail
          go_ret
          exact ⟨rfl, hg.trans hgr⟩
end Go.Proofs.Ytamhlflacnldfaa
