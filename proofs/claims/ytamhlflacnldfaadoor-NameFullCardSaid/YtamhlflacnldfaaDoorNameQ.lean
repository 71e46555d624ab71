/- NameFull: the walk -/
import Derived.Test.YtamhlflacnldfaaDoorNameSh
namespace Go.Proofs.YtamhlflacnldfaaDoor
set_option linter.unusedVariables false
set_option linter.unusedSimpArgs false
open Go.RowKit Go.Shelf Go.Maps

theorem strs_app (a b : List ByteArray) : strs (a ++ b) = strs a ++ strs b := by simp [strs]
theorem infoS9 : (Tryd.prog.info? 9).map (fun i => (i.zero, i.size, i.bytes)) = some (some (.string ⟨#[]⟩), 1, 16) := by kernel_rfl
theorem of_no (S : Nat → Prop) (B : Nat) (L ss : List ByteArray) (v : Value) (w : World) (hv : Rdr w 1 v ss.length (strs ss)) (hb : Bk S w B L) (hvS : 0 < ss.length → ∀ g, v.ownBlock = some g → ¬ S g) (hss : ∀ s ∈ ss, s.size ≤ maxLen)
    (hn : ss.length ≤ 1000000) (hL : L.length ≤ 65536) (h : 65536 < L.length + (fresh L ss).length) : Calls Tryd.prog 7 #[.pointer (some ⟨B, 0, none⟩), v] w fun e w' =>
    e = .returned (.tuple #[.slice none 0 0, .int .i64 3]) ∧ G w w' := by
  refine (of_any S B L ss v w hv hb hvS hss hn hL).mono ?_
  rintro e w' (⟨-, h1, h2⟩ | ⟨h1, -⟩)
  · exact ⟨h1, h2⟩
  · omega
theorem of_yes (S : Nat → Prop) (B : Nat) (L ss : List ByteArray) (v : Value) (w : World) (hv : Rdr w 1 v ss.length (strs ss)) (hb : Bk S w B L) (hvS : 0 < ss.length → ∀ g, v.ownBlock = some g → ¬ S g) (hss : ∀ s ∈ ss, s.size ≤ maxLen)
    (hn : ss.length ≤ 1000000) (hL : L.length ≤ 65536) (h : L.length + (fresh L ss).length ≤ 65536) : Calls Tryd.prog 7 #[.pointer (some ⟨B, 0, none⟩), v] w fun e w' =>
    ∃ out S', e = .returned (.tuple #[out, .int .i64 0]) ∧ w'.ownsRow w.heap.size 3 1 out ss.length (ints (nums L ss)) ∧ Bk S' w' B (L ++ fresh L ss) ∧
    (∀ k, S' k → S k ∨ w.heap.size ≤ k) ∧ (∀ g, out.ownBlock = some g → ¬ S' g) ∧ Fr S w w' := by
  refine (of_any S B L ss v w hv hb hvS hss hn hL).mono ?_
  rintro e w' (⟨h1, -⟩ | ⟨-, h1⟩)
  · omega
  · exact h1
theorem few {l : List ByteArray} (h : l.all (fun s => decide (s.size ≤ 100)) = true) : ∀ s ∈ l, s.size ≤ maxLen := fun s hs => by
  have := List.all_eq_true.1 h s hs
  simp only [decide_eq_true_eq] at this
  unfold maxLen; omega
set_option maxRecDepth 10000 in
set_option maxHeartbeats 4000000 in
theorem full_any (w : World) (htab : Lib.TabIs Tryd.prog w tabN .u64 Lib.pow10Tab) : Calls Tryd.prog 3 #[] w fun e w' => e = .returned (.bool true) ∧ G w w' := by
  obtain ⟨i0, hi, hz0, hz1, hz2⟩ := info_parts infoS9
  have HI := Lib.hid (And.intro hi (And.intro hz0 (And.intro hz1 hz2)))
  have HT := Lib.hid htab
  clear hi hz0 hz1 hz2 htab
  go_enter Tryd.func3, Tryd.ntmps3
  go_wp2_with fail
  refine (awake_any w).mono ?_
  rintro e w1 ⟨rfl, hg1⟩
  go_wp2_with fail
  refine (new_any w1).mono ?_
  rintro e w2 ⟨B, rfl, hb, hg2⟩
  have HB := Lib.hid hb
  have HG2 := Lib.hid (hg1.trans hg2)
  have HZ1 := Lib.hid (And.intro hg1.size hg2.size)
  clear hb hg1 hg2
  go_wp2_with fail
  go_loopw [2, 3] (fun lv kv wr => ∃ (k : Nat) (rp : Option Addr) (rc : Nat), k ≤ 65534 ∧ lv = .slice rp k rc ∧ kv = .int .i64 k ∧ Hid (wr.ownsRow w2.heap.size 9 1 (.slice rp k rc) k (strs (ntL k))) ∧ G w2 wr) (fun _ kv _ => 65534 - (intOf kv).toNat)
  case atStart => exact ⟨0, none, 0, by omega, rfl, rfl, Lib.hid (World.ownsRow_nil _ _ _ _), G.refl _⟩
  case round =>
    obtain ⟨k, rp, rc, hk, rfl, rfl, HR, hg⟩ := hrel
    by_cases hlt : k < 65534
    · have hltI : (k : Int) < 65534 := by omega
      have HIT := Lib.hid (itoa_any k (by omega) wr (tab_on HT.out (HG2.out.trans hg)))
      obtain ⟨s, hs⟩ : ∃ s, s = nt k := ⟨_, rfl⟩
      rw [← hs] at HIT
      have HS := Lib.hid hs
      clear hs
      go_wp2_with fail
      refine HIT.out.mono ?_
      rintro e w3 ⟨rfl, hg3⟩
      have HROW := Lib.hid (hg3.ownsRow HR.out)
      have hg23 := hg.trans hg3
      have hz := hg23.size
      clear HIT hg3
      go_upto_region 7 with (at_builtin; go_loud (refine wpList_appendR _ rfl _ _ 25 rfl w2.heap.size 9 i0 (.string ⟨#[]⟩) 1 16 Tryd.underlying25 HI.out.1 HI.out.2.1 HI.out.2.2.1 HI.out.2.2.2 rfl (by decide) (.slice rp k rc) k (strs (ntL k)) rfl (HROW.out.alloc _) (.slice (some ⟨w3.heap.size, 0, none⟩) 1 1) 1 (strs [s]) rfl (rdr_alloc w3 (strs [s]) _ _ 1 1 1 rfl) (by simp [strs, Value.oneCell']) (by unfold maxLen; omega) (by omega) (by simp; omega) ?_); intro mp mc w4 hown4 hgrow4 hat4)
      have HN := Lib.hid (show w4.ownsRow w2.heap.size 9 1 (.slice mp (k + 1) mc) (k + 1) (strs (ntL (k + 1))) by
        rw [ntL_succ, strs_app, ← HS.out]; exact hown4)
      have hg4 : G w2 w4 := (hg23.alloc _).grown hgrow4 (fun q h => (HROW.out.lt q h).1)
      clear hown4 hgrow4 hat4
      go_wp2_with fail
      go_roundw
      case rel => exact ⟨k + 1, mp, mc, by omega, rfl, by go_num, HN, hg4⟩
      case measure => simp [intOf]; omega
    · have hltI : ¬ (k : Int) < 65534 := by omega
      have hkn : k = 65534 := by omega
      obtain ⟨n, hn⟩ : ∃ n, n = k := ⟨_, rfl⟩
      rw [← hn] at HR hltI hkn ⊢
      have HNN := Lib.hid hkn
      have hb0 := HB.out.g hg
      have hown := HR.out
      have HOF := Lib.hid (of_yes _ B [] (ntL n) (.slice rp n rc) wr (by rw [ntL_len]; exact rdr_of_owns HR.out) hb0 (by
        intro _ g hgb h2
        have := (hown.lt g hgb).1
        omega) (fun s hs => by obtain ⟨i, hi, rfl⟩ := ntL_mem hs; exact nt_size i (by have := HNN.out; omega)) (by rw [ntL_len]; have := HNN.out; omega) (by simp) (by rw [fresh_ntL, ntL_len]; have := HNN.out; simp; omega))
      have hS0 : ∀ q, (w1.heap.size ≤ q ∧ q < w2.heap.size) → w.heap.size ≤ q := fun q h => by have := HZ1.out.1; omega
      have HS0 := Lib.hid hS0
      rw [fresh_ntL, List.nil_append] at HOF
      have HGW := Lib.hid (HG2.out.trans hg)
      clear hn hlt hk hg hb0 hown hkn hS0
      go_wp2_with fail
      refine HOF.out.mono ?_
      rintro e w3 ⟨o1, S1, rfl, -, hb1, hS1, -, hF1⟩
      have hg3 : G w w3 := g_of_fr HGW.out hF1 (fun q h => HS0.out q h)
      have hwr := HGW.out.size
      have HS1 := Lib.hid (show ∀ q, S1 q → w.heap.size ≤ q from fun q h => (hS1 q h).elim (fun h => HS0.out q h) (fun h => by omega))
      have HL1 := Lib.hid (show ∀ q, S1 q → q < w3.heap.size from fun q h => hb1.ltS h)
      have HB1 := Lib.hid hb1
      have HG3 := Lib.hid hg3
      clear hb1 hS1 hF1 hg3 hwr HOF
      have HO2 := Lib.hid (of_no S1 B (ntL n) [⟨#[97]⟩, ⟨#[98]⟩, ⟨#[97]⟩, ⟨#[99]⟩] (.slice (some ⟨w3.heap.size, 0, none⟩) 4 4) (w3.alloc (.cells (strs [⟨#[97]⟩, ⟨#[98]⟩, ⟨#[97]⟩, ⟨#[99]⟩]).toArray 9)) (rdr_alloc w3 (strs [⟨#[97]⟩, ⟨#[98]⟩, ⟨#[97]⟩, ⟨#[99]⟩]) 9 (0, 0) 1 4 4 rfl) (HB1.out.g ((G.refl _).alloc _)) (by
        intro _ g hg h; cases hg; exact absurd (HL1.out _ h) (by simp)) (few (by decide)) (by simp) (by rw [ntL_len]; have := HNN.out; omega) (by rw [fresh_abac, ntL_len]; have := HNN.out; simp; omega))
      go_wp2_with fail
      refine HO2.out.mono ?_
      rintro e w4 ⟨rfl, hg4⟩
      have HG34 := Lib.hid (((G.refl w3).alloc _).trans hg4)
      clear HO2 hg4
      go_wp2_with fail
      have HLN := Lib.hid (len_any S1 B (ntL n) w4 (HB1.out.g HG34.out))
      rw [show ((ntL n).length : Int) = 65534 from by rw [ntL_len]; have := HNN.out; omega] at HLN
      refine HLN.out.mono ?_
      rintro e w4' ⟨rfl, hw4⟩
      obtain rfl : w4 = w4' := hw4
      have hz4 := HG34.out.size
      have HO3 := Lib.hid (of_yes S1 B (ntL n) [⟨#[97]⟩, ⟨#[55]⟩, ⟨#[97]⟩, ⟨#[98]⟩] (.slice (some ⟨w4.heap.size, 0, none⟩) 4 4) (w4.alloc (.cells (strs [⟨#[97]⟩, ⟨#[55]⟩, ⟨#[97]⟩, ⟨#[98]⟩]).toArray 9)) (rdr_alloc w4 (strs [⟨#[97]⟩, ⟨#[55]⟩, ⟨#[97]⟩, ⟨#[98]⟩]) 9 (0, 0) 1 4 4 rfl) (HB1.out.g (HG34.out.alloc _)) (by
        intro _ g hg h; cases hg; have h9 : w4.heap.size < w3.heap.size := HL1.out _ h; omega) (few (by decide)) (by simp) (by rw [ntL_len]; have := HNN.out; omega) (by rw [fresh_a7ab (by have := HNN.out; omega), ntL_len]; have := HNN.out; simp; omega))
      rw [nums_a7ab (by have := HNN.out; omega), fresh_a7ab (by have := HNN.out; omega), show ([(n : Int), 7, n, n + 1]) = [65534, 7, 65534, 65535] from by rw [HNN.out]; rfl] at HO3
      clear HLN
      go_wp2_with fail
      refine HO3.out.mono ?_
      rintro e w5 ⟨o2, S2, rfl, ho2, hb2, hS2, hd2, hF2⟩
      have hb2' : Bk S2 w5 B (fullL n) := hb2
      have hg5 : G w w5 := g_of_fr ((HG3.out.trans HG34.out).alloc _) hF2 (fun q h => HS1.out q h)
      have hw4 := (HG3.out.trans HG34.out).size
      have HS2 := Lib.hid (show ∀ q, S2 q → w.heap.size ≤ q from fun q h => (hS2 q h).elim (fun h => HS1.out q h) (fun h => by simp at h; omega))
      have HL2 := Lib.hid (show ∀ q, S2 q → q < w5.heap.size from fun q h => hb2'.ltS h)
      have HB2 := Lib.hid hb2'
      have HOW2 := Lib.hid ho2
      have HD2 := Lib.hid hd2
      have HG5 := Lib.hid hg5
      clear hb2 hb2' hS2 hd2 hF2 hg5 ho2 hw4 hz4 HO3
      have HO4 := Lib.hid (of_no S2 B (fullL n) [⟨#[97]⟩, ⟨#[100]⟩] (.slice (some ⟨w5.heap.size, 0, none⟩) 2 2) (w5.alloc (.cells (strs [⟨#[97]⟩, ⟨#[100]⟩]).toArray 9)) (rdr_alloc w5 (strs [⟨#[97]⟩, ⟨#[100]⟩]) 9 (0, 0) 1 2 2 rfl) (HB2.out.g ((G.refl _).alloc _)) (by
        intro _ g hg h; cases hg; exact absurd (HL2.out _ h) (by simp)) (few (by decide)) (by simp) (by rw [fullL_len]; have := HNN.out; omega) (by rw [fresh_ad, fullL_len]; have := HNN.out; simp; omega))
      go_wp2_with fail
      refine HO4.out.mono ?_
      rintro e w6 ⟨rfl, hg6⟩
      have HG56 := Lib.hid (((G.refl w5).alloc _).trans hg6)
      clear HO4 hg6
      have HO5 := Lib.hid (of_yes S2 B (fullL n) [⟨#[98]⟩, ⟨#[48]⟩] (.slice (some ⟨w6.heap.size, 0, none⟩) 2 2) (w6.alloc (.cells (strs [⟨#[98]⟩, ⟨#[48]⟩]).toArray 9)) (rdr_alloc w6 (strs [⟨#[98]⟩, ⟨#[48]⟩]) 9 (0, 0) 1 2 2 rfl) (HB2.out.g (HG56.out.alloc _)) (by
        intro _ g hg h; cases hg; have h9 : w6.heap.size < w5.heap.size := HL2.out _ h; have := HG56.out.size; omega) (few (by decide)) (by simp) (by rw [fullL_len]; have := HNN.out; omega) (by rw [fresh_b0 (by have := HNN.out; omega), fullL_len]; have := HNN.out; simp; omega))
      rw [nums_b0 (by have := HNN.out; omega), fresh_b0 (by have := HNN.out; omega), List.append_nil, show ([(n : Int) + 1, 0]) = [65535, 0] from by rw [HNN.out]; rfl] at HO5
      go_wp2_with fail
      refine HO5.out.mono ?_
      rintro e w7 ⟨o3, S3, rfl, ho3, hb3, hS3, hd3, hF3⟩
      have hg7 : G w w7 := g_of_fr ((HG5.out.trans HG56.out).alloc _) hF3 (fun q h => HS2.out q h)
      have HR2 := Lib.hid (show Rdr w7 1 o2 4 (ints [65534, 7, 65534, 65535]) from rdr_of_owns (hF3.ownsRow ((HG56.out.ownsRow HOW2.out).alloc _) HD2.out))
      have HR3 := Lib.hid (show Rdr w7 1 o3 2 (ints [65535, 0]) from rdr_of_owns ho3)
      have HB3 := Lib.hid hb3
      have HG7 := Lib.hid hg7
      clear hg7 hF3 hd3 hS3 hb3 ho3 HO5
      go_wp2_with fail
      refine (sameI_yes [65534, 7, 65534, 65535] [65534, 7, 65534, 65535] _ _ _ (HR2.out.g ((G.refl _).alloc _)) (rdr_alloc w7 (ints [65534, 7, 65534, 65535]) 3 (0, 0) 1 4 4 rfl) (by simp) rfl).mono ?_
      rintro e w8 ⟨rfl, hg8⟩
      have HG8 := Lib.hid (((G.refl w7).alloc _).trans hg8)
      clear hg8
      go_wp2_with fail
      refine (sameI_yes [65535, 0] [65535, 0] _ _ _ (HR3.out.g (HG8.out.alloc _)) (rdr_alloc w8 (ints [65535, 0]) 3 (0, 0) 1 2 2 rfl) (by simp) rfl).mono ?_
      rintro e w9 ⟨rfl, hg9⟩
      have HG9 := Lib.hid (HG8.out.trans (((G.refl w8).alloc _).trans hg9))
      clear hg9
      have HLN := Lib.hid (len_any S3 B (fullL n) w9 (HB3.out.g HG9.out))
      rw [show ((fullL n).length : Int) = 65536 from by rw [fullL_len]; have := HNN.out; omega] at HLN
      go_wp2_with fail
      refine HLN.out.mono ?_
      rintro e w10 ⟨rfl, rfl⟩
      go_wp2_with fail
      go_ret
      exact ⟨rfl, HG7.out.trans HG9.out⟩
end Go.Proofs.YtamhlflacnldfaaDoor
