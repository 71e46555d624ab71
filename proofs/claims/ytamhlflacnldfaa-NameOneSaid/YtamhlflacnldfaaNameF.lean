/- the document's Of -/
import Derived.Test.YtamhlflacnldfaaNameD
import Derived.Test.YtamhlflacnldfaaNameE
namespace Go.Proofs.Ytamhlflacnldfaa
set_option linter.unusedVariables false
set_option linter.unusedSimpArgs false
open Go.RowKit Go.Shelf Go.Maps
attribute [local go_sem] Oper.semAt_some


theorem nums_get {L ss : List ByteArray} {k : Nat} {s : ByteArray} (hs : ss[k]? = some s) : nums L (ss.take (k + 1)) = nums L (ss.take k) ++ [num (L ++ fresh L (ss.take (k + 1))) s] := by
  have : ss.take (k + 1) = ss.take k ++ [s] := by rw [List.take_add_one, hs]; rfl
  rw [this]; exact nums_snoc _ _ _
theorem fresh_old {L ss : List ByteArray} {k : Nat} {s : ByteArray} (hs : ss[k]? = some s) (h : inL s (L ++ fresh L (ss.take k)) = true) : fresh L (ss.take (k + 1)) = fresh L (ss.take k) := by
  have : ss.take (k + 1) = ss.take k ++ [s] := by rw [List.take_add_one, hs]; rfl
  rw [this, fresh_snoc, if_pos h, List.append_nil]
theorem fresh_new {L ss : List ByteArray} {k : Nat} {s : ByteArray} (hs : ss[k]? = some s) (h : inL s (L ++ fresh L (ss.take k)) = false) : fresh L (ss.take (k + 1)) = fresh L (ss.take k) ++ [s] := by
  have : ss.take (k + 1) = ss.take k ++ [s] := by rw [List.take_add_one, hs]; rfl
  rw [this, fresh_snoc, if_neg (by rw [h]; decide)]
theorem num_end {L : List ByteArray} {s : ByteArray} (h : inL s L = false) : num (L ++ [s]) s = L.length := by
  refine num_at (by simp) (fun j hj e => ?_)
  rw [List.getElem?_append_left hj] at e
  have := inL_iff.2 (List.mem_of_getElem? e)
  rw [h] at this; cases this
theorem ints_snoc (l : List Int) (x : Int) : ints (l ++ [x]) = ints l ++ [.int .i64 x] := by simp [ints]
theorem info3' : (Try.prog.info? 3).map (fun i => (i.zero, i.size, i.bytes)) = some (some (.int .i64 0), 1, 8) := by kernel_rfl

set_option maxHeartbeats 400000 in
theorem rOf_any (S : Nat → Prop) (R : Nat) (L ss : List ByteArray) (v : Value) (w : World) (hv : Rdr w 1 v ss.length (strs ss)) (hb : RBk S w R L)
    (hn : L.length + ss.length ≤ 65536) : Calls Try.prog 16 #[.pointer (some ⟨R, 0, none⟩), v] w fun e w' =>
    ∃ out S', e = .returned (.tuple #[out, .int .i64 0]) ∧ w'.ownsRow w.heap.size 3 1 out ss.length (ints (nums L ss)) ∧ RBk S' w' R (L ++ fresh L ss) ∧
    (∀ k, S' k → S k ∨ w.heap.size ≤ k) ∧ (∀ g, out.ownBlock = some g → ¬ S' g) ∧ Fr S w w' := by
  obtain ⟨p, c, rfl, hl, -⟩ := hv.at
  obtain ⟨lv, hR, hLo, hRS, hLS, hlt⟩ := hb
  obtain ⟨lp, lc, rfl⟩ := ownsRow_shape hLo
  have hRx : Boxed w R 44 (.slice lp L.length lc) := hR
  have c0 := hRx.cell
  have hRlt := hRx.lt
  have HV := Lib.hid hv
  have HR := Lib.hid hRx
  have HLO := Lib.hid hLo
  have HLS := Lib.hid hLS
  have HLT := Lib.hid hlt
  have HVL := Lib.hid (fun h => hv.lt h (by omega) : 0 < ss.length → ∀ g, (Value.slice p ss.length c).ownBlock = some g → g < w.heap.size)
  have HO := Lib.hid (fun u hu => by simp [strs] at hu; obtain ⟨s, _, rfl⟩ := hu; rfl : ∀ u ∈ strs L, u.oneCell' = true)
  obtain ⟨i0, hi, hz0, hz1, hz2⟩ := info_parts info9
  obtain ⟨i1, hi', hz0', hz1', hz2'⟩ := info_parts info3'
  have hLR := Lib.hid (rdr_of_owns hLo)
  clear hv hl hR hRx hLo hLS hlt
  go_enter Try.func16, Try.ntmps16
  go_wp2_with (at_builtin; refine wpList_appendR _ rfl _ _ 30 rfl w.heap.size 9 i0 (.string ⟨#[]⟩) 1 16 Try.underlying30 hi hz0 hz1 hz2 rfl (by decide) _ 0 [] rfl (World.ownsRow_made w #[] 0 (Nat.le_refl _) (Nat.zero_le _) rfl) (.slice lp L.length lc) L.length (strs L) rfl (hLR.out.g ((G.refl w).alloc _)) HO.out (by unfold maxLen; omega) (by omega) (by simp) ?_; intro mp mc w1 hown1 hgrow1 hat1)
  simp only [Nat.zero_add, List.nil_append] at hown1 hat1 ⊢
  have hg1 : G w w1 := ((G.refl w).alloc _).grown hgrow1 (fun k h => by have := Option.some.inj h; simp at this; omega)
  have hg1s := hg1.size
  generalize hM : w1.heap.size = M
  have hMw : w.heap.size ≤ M := by omega
  have hB0 : RBk (fun q => w.heap.size ≤ q ∧ q < M + 1) (w1.alloc (.cells #[.slice mp L.length mc] 44)) M L :=
    ⟨_, by subst hM; exact alloc_new w1 _, ownsRow_mono (((G.refl w1).alloc _).ownsRow hown1) (Nat.zero_le _), ⟨by omega, by omega⟩, fun g hg => ⟨⟨(hown1.lt g hg).1, by have := (hown1.lt g hg).2; omega⟩, by have := (hown1.lt g hg).2; omega⟩, fun k hk => by have := hk.2; simp; omega⟩
  have hg2 : G w (w1.alloc (.cells #[.slice mp L.length mc] 44)) := hg1.alloc _
  clear hown1 hgrow1 hat1 hg1
  generalize w1.alloc (.cells #[.slice mp L.length mc] 44) = w2 at hB0 hg2 ⊢
  obtain ⟨n, hnn⟩ : ∃ n, n = ss.length := ⟨_, rfl⟩
  rw [← hnn] at hn
  simp only [← hnn] at c0 ⊢
  have HN := Lib.hid hnn
  clear hnn hM hg1s
  go_loopw [7, 8] (fun out i wr => ∃ (k : Nat) (S1 : Nat → Prop), k ≤ n ∧ i = .int .i64 k ∧ RBk S1 wr M (L ++ fresh L (ss.take k)) ∧ Hid (∀ q, S1 q → w.heap.size ≤ q) ∧ Hid (∀ g, out.ownBlock = some g → ¬ S1 g) ∧ wr.ownsRow w.heap.size 3 1 out k (ints (nums L (ss.take k))) ∧ G w wr) (fun _ i _ => n - (intOf i).toNat)
  case atStart => exact ⟨0, _, by omega, rfl, by simpa [fresh, fr] using hB0, (fun q hq => hq.1 : ∀ q, (w.heap.size ≤ q ∧ q < M + 1) → w.heap.size ≤ q), (fun g hg => (by cases hg) : ∀ g, (Value.slice none 0 0).ownBlock = some g → ¬ (w.heap.size ≤ g ∧ g < M + 1)), by simpa [nums, ints] using World.ownsRow_nil _ _ _ _, hg2⟩
  case round =>
    obtain ⟨k, S1, hk, rfl, hB, HS1, HOS, hout, hg⟩ := hrel
    by_cases hlt : k < n
    · obtain ⟨b, o, rfl, hcell⟩ := HV.out.one (by have := HN.out; omega)
      obtain ⟨s, hs⟩ : ∃ s, ss[k]? = some s := ⟨ss[k]'(by have := HN.out; omega), List.getElem?_eq_getElem _⟩
      have hbw : b < w.heap.size := HVL.out (by have := HN.out; omega) b rfl
      have cs := hg.cell (hcell k _ (strs_get hs))
      have HSK := Lib.hid hs
      have hfl : (L ++ fresh L (ss.take k)).length ≤ L.length + k := by
        rw [List.length_append]
        have h1 := fresh_len L (ss.take k)
        have h2 : (ss.take k).length ≤ k := by rw [List.length_take]; omega
        omega
      have hgs := hg.size
      obtain ⟨K, hK⟩ : ∃ K, K = L ++ fresh L (ss.take k) := ⟨_, rfl⟩
      rw [← hK] at hB hfl
      have HK := Lib.hid hK
      have HB := Lib.hid hB
      have HOUT := Lib.hid hout
      clear hs hcell hK
      obtain ⟨mv, hMb, hMo, hMS, hMD, hMlt⟩ := hB
      obtain ⟨qp, qc, rfl⟩ := ownsRow_shape hMo
      have hMx : Boxed wr M 44 (.slice qp K.length qc) := hMb
      have cM := hMx.cell
      have fM := hMx.frozen
      have hMwl := hMx.lt
      obtain ⟨op, oc, rfl⟩ := ownsRow_shape hout
      have HMX := Lib.hid hMx
      have HMD := Lib.hid hMD
      have HMLT := Lib.hid hMlt
      have agM : (Value.slice qp K.length qc).ownBlock ≠ some M := fun e => (HMD.out M e).2 rfl
      have hKL : K.length ≤ 1000000 := by omega
      clear hMb hMD hMlt hMx hout
      cases hin : inL s K
      · have HIN := Lib.hid hin
        have hfind := (rfind_any S1 M K s wr HB.out hKL)
        rw [hin] at hfind
        clear hin
        go_upto_region 9 with (go_at_call 18; refine hfind.mono ?_; rintro e w3 ⟨rfl, rfl⟩)
        refine region_hl (fun w' => w'.cell? ⟨M, 0, none⟩ = some (.slice qp K.length qc) ∧ w'.cell? ⟨b, o + k, none⟩ = some (.string s)) 13 14 (by kernel_rfl) rfl ?_
        simp only [List.replicate_succ, List.replicate_zero]
        have HS0 : (fun w' : World => w'.cell? ⟨M, 0, none⟩ = some (.slice qp K.length qc) ∧ w'.cell? ⟨b, o + k, none⟩ = some (.string s)) wr.drew := ⟨cM, cs⟩
        refine hl_take_np 0 (by kernel_rfl) (by kernel_rfl) rfl (by kernel_rfl) HS0 (v := ?_) ?_ ?_
        rotate_left
        · (rintro x ⟨s1, s2⟩; go_simp; try rfl)
        simp only [Act.put, List.setIfInBounds_toArray, List.set_cons_zero, List.set_cons_succ]
        refine hl_take_np 1 (by kernel_rfl) (by kernel_rfl) rfl (by kernel_rfl) HS0 (v := ?_) ?_ ?_
        rotate_left
        · (rintro x ⟨s1, s2⟩; go_simp; try rfl)
        simp only [Act.put, List.setIfInBounds_toArray, List.set_cons_zero, List.set_cons_succ]
        refine hl_take_np 2 (by kernel_rfl) (by kernel_rfl) rfl (by kernel_rfl) HS0 (v := ?_) ?_ ?_
        rotate_left
        · (rintro x ⟨s1, s2⟩; go_simp; try rfl)
        simp only [Act.put, List.setIfInBounds_toArray, List.set_cons_zero, List.set_cons_succ]
        refine hl_take_np 3 (by kernel_rfl) (by kernel_rfl) rfl (by kernel_rfl) HS0 (v := ?_) ?_ ?_
        rotate_left
        · (rintro x ⟨s1, s2⟩; go_simp; try rfl)
        simp only [Act.put, List.setIfInBounds_toArray, List.set_cons_zero, List.set_cons_succ]
        refine hl_take_np 4 (by kernel_rfl) (by kernel_rfl) rfl (by kernel_rfl) HS0 (v := ?_) ?_ ?_
        rotate_left
        · (rintro x ⟨s1, s2⟩; go_simp; try rfl)
        simp only [Act.put, List.setIfInBounds_toArray, List.set_cons_zero, List.set_cons_succ]
        refine hl_take_np 5 (by kernel_rfl) (by kernel_rfl) rfl (by kernel_rfl) HS0 (v := ?_) ?_ ?_
        rotate_left
        · (rintro x ⟨s1, s2⟩; go_simp; try rfl)
        simp only [Act.put, List.setIfInBounds_toArray, List.set_cons_zero, List.set_cons_succ]
        refine hl_take_np 6 (by kernel_rfl) (by kernel_rfl) rfl (by kernel_rfl) HS0 (v := ?_) ?_ ?_
        rotate_left
        · (rintro x ⟨s1, s2⟩; go_simp; try rfl)
        simp only [Act.put, List.setIfInBounds_toArray, List.set_cons_zero, List.set_cons_succ]
        refine hl_take_np 7 (by kernel_rfl) (by kernel_rfl) rfl (by kernel_rfl) HS0 (v := ?_) ?_ ?_
        rotate_left
        · (rintro x ⟨s1, s2⟩; go_simp; try rfl)
        simp only [Act.put, List.setIfInBounds_toArray, List.set_cons_zero, List.set_cons_succ]
        refine hl_take_np 8 (by kernel_rfl) (by kernel_rfl) rfl (by kernel_rfl) HS0 (v := ?_) ?_ ?_
        rotate_left
        · (rintro x ⟨s1, s2⟩; go_simp; try rfl)
        simp only [Act.put, List.setIfInBounds_toArray, List.set_cons_zero, List.set_cons_succ]
        refine hl_step 9 (by kernel_rfl) rfl ?_
        go_wp2_with fail
        show _ ∧ _
        have hA : G wr (wr.alloc (.cells #[.string s] 9)).drew := ((G.refl wr).alloc _).drew
        refine ⟨(by first | exact ⟨hA.cell cM, hA.cell cs⟩ | exact fun _ => ⟨hA.cell cM, hA.cell cs⟩), ?_⟩
        refine hl_step 10 (by kernel_rfl) rfl ?_
        refine wpList_append_lies _ rfl _ _ 30 rfl 0 9 i0 (.string ⟨#[]⟩) 1 16 Try.underlying30 hi hz0 hz1 hz2 rfl (by omega) (.slice qp K.length qc) K.length (strs K) rfl ((hMo.alloc _).drew)
          ⟨wr.heap.size, 0, none⟩ 1 1 [.string s] rfl rfl (World.news_of_block (cs := #[.string s]) (t := 9) (fr := (0, 0)) (heap_alloc_new wr _)) (by simp [Value.oneCell'])
          (by omega) (by unfold maxLen; omega) (by omega) (Nat.zero_le _) (wr.heap.size + 1) (by simp) ?_
        intro gg cap w3 hown3 hgrow3 hat hlt3
        have hfr3 : Fr (fun q => (Value.slice qp K.length qc).ownBlock = some q) wr w3 := ((hA.fr _).trans (grownBy_fr hgrow3) (fun _ _ h => h))
        have agb : (Value.slice qp K.length qc).ownBlock ≠ some b := fun e => by have := HS1.out b (HMD.out b e).1; omega
        have cM3 := hfr3.cell (p := ⟨M, 0, none⟩) agM cM
        have cs3 := hfr3.cell (p := ⟨b, o + k, none⟩) agb cs
        have hM3 := Lib.hid (hfr3.boxed HMX.out agM)
        have fM3 := hM3.out.frozen
        show _ ∧ _
        refine ⟨fun _ => ⟨cM3, cs3⟩, ?_⟩
        refine hl_step 11 (by kernel_rfl) rfl ?_
        go_wp2_with fail
        show _ ∧ _
        refine ⟨(by first | exact ⟨cM3, cs3⟩ | exact fun _ => ⟨cM3, cs3⟩), ?_⟩
        refine hl_step 12 (by kernel_rfl) rfl ?_
        go_wp2_with fail
        show _ ∧ _
        refine ⟨(by first | exact ⟨cM3, cs3⟩ | exact fun _ => ⟨cM3, cs3⟩), ?_⟩
        refine hl_step 13 (by kernel_rfl) rfl ?_
        go_wp2_with fail
        show _ ∧ _
        refine ⟨(by first | exact fun h => absurd rfl h | trivial), ?_⟩
        refine hl_done (by kernel_rfl) ?_ _
        refine NoPanic.normal ?_
        have hM4 := hM3.out.set (.slice (some ⟨gg, 0, none⟩) (K.length + 1) cap)
        have hF4 : Fr (fun q => (Value.slice qp K.length qc).ownBlock = some q ∨ q = M) wr (w3.setCell ⟨M, 0, none⟩ (.slice (some ⟨gg, 0, none⟩) (K.length + 1) cap)) := (hfr3.mono (fun _ h => .inl h)).setCell (p := ⟨M, 0, none⟩) (.inl (.inr rfl)) _
        have hggM : gg ≠ M := fun e => hat.elim (fun h => agM (by rw [h, e])) (fun h => by omega)
        have hown4 : (w3.setCell ⟨M, 0, none⟩ (.slice (some ⟨gg, 0, none⟩) (K.length + 1) cap)).ownsRow 0 9 1 (.slice (some ⟨gg, 0, none⟩) (K.length + 1) cap) (K ++ [s]).length (strs (K ++ [s])) := by
          have e1 : strs (K ++ [s]) = strs K ++ [.string s] := by simp [strs]
          rw [e1, List.length_append]
          exact ((Fr.refl (fun q => q = M) w3).setCell (p := ⟨M, 0, none⟩) (.inl rfl) _).ownsRow hown3 (fun g hg e => hggM (by rw [← e]; exact Option.some.inj hg))
        have hout4 := hF4.ownsRow HOUT.out (fun g hg' h => h.elim (fun h => HOS.out g hg' (HMD.out g h).1) (fun h => HOS.out g hg' (by rw [h]; exact hMS)))
        have hF4s := hF4.size
        have hgglt : gg < (w3.setCell ⟨M, 0, none⟩ (.slice (some ⟨gg, 0, none⟩) (K.length + 1) cap)).heap.size := (hown4.lt gg rfl).2
        have HB4 : Hid (RBk (fun q => S1 q ∨ q = gg) (w3.setCell ⟨M, 0, none⟩ (.slice (some ⟨gg, 0, none⟩) (K.length + 1) cap)) M (K ++ [s])) := Lib.hid (⟨_, hM4, by rw [List.length_append] at hown4; simpa using hown4, .inl hMS, fun g hg => ⟨.inr (Option.some.inj hg).symm, fun e => hggM (by rw [← e]; exact Option.some.inj hg)⟩, fun q hq => hq.elim (fun h => Nat.lt_of_lt_of_le (HMLT.out q h) hF4s) (fun h => by rw [h]; exact hgglt)⟩ : RBk (fun q => S1 q ∨ q = gg) _ M (K ++ [s]))
        have HS4 := Lib.hid (fun q hq => hq.elim (HS1.out q) (fun e => by subst e; exact hat.elim (fun h => HS1.out _ (HMD.out _ h).1) (fun h => by omega)) : ∀ q, (S1 q ∨ q = gg) → w.heap.size ≤ q)
        have HOS4 := Lib.hid (fun q hq h => h.elim (HOS.out q hq) (fun e => hat.elim (fun h => HOS.out q hq (by rw [e]; exact (HMD.out _ h).1)) (fun h => by have := (HOUT.out.lt q hq).2; omega)) : ∀ q, (Value.slice op k oc).ownBlock = some q → ¬ (S1 q ∨ q = gg))
        have hg4 : G w (w3.setCell ⟨M, 0, none⟩ (.slice (some ⟨gg, 0, none⟩) (K.length + 1) cap)) := ((hg.fr (fun q => w.heap.size ≤ q)).trans hF4 (fun q _ h => h.elim (fun h => HS1.out q (HMD.out q h).1) (fun h => by omega))).g (fun _ h => h)
        have hg4s := hg4.size
        clear hown4 hF4 hfr3 hgrow3 hat hown3 hlt3 cM3 cs3 fM3 hM4 hA HS0
        generalize w3.setCell ⟨M, 0, none⟩ (.slice (some ⟨gg, 0, none⟩) (K.length + 1) cap) = w4 at *
        go_wp2_with (at_builtin; refine wpList_append2 _ rfl _ _ 32 rfl w.heap.size 3 i1 (.int .i64 0) 1 8 Try.underlying32 hi' hz0' hz1' hz2' rfl (by decide) _ k (ints (nums L (ss.take k))) rfl (hout4.alloc _) ⟨w4.heap.size, 0, none⟩ 1 1 [.int .i64 K.length] rfl rfl (cell_one_new _ _ _) (by simp [Value.oneCell']) (by unfold maxLen; omega) (by omega) (by simp; omega) ?_; intro v' w5 hown5 hgrow5 _ hat5; obtain ⟨g', cap', rfl⟩ := ownsRow_succ hown5)
        go_roundw
        case rel =>
          have hF5 : Fr (fun q => (Value.slice op k oc).ownBlock = some q) w4 w5 := ((((G.refl w4).alloc _)).fr _).trans (grownBy_fr hgrow5) (fun _ _ h => h)
          refine ⟨k + 1, fun q => S1 q ∨ q = gg, by omega, by go_num, ?_, HS4, ?_, ?_, ((hg4.alloc _).grown hgrow5 (fun k h => (hout4.lt k h).1))⟩
          · rw [fresh_new HSK.out (by rw [← HK.out]; exact HIN.out), ← List.append_assoc, ← HK.out]
            exact RBk.fr HB4.out hF5 (fun q hq e => HOS4.out q e hq)
          · intro q hq h'
            rcases hat5 q hq with h | h
            · exact HOS4.out q h h'
            · have := RBk.ltS HB4.out h'
              simp at h
              omega
          · rw [nums_get HSK.out, fresh_new HSK.out (by rw [← HK.out]; exact HIN.out), ← List.append_assoc, ← HK.out, num_end HIN.out, ints_snoc]
            exact hown5
        case measure => simp [intOf]; omega
      · have HIN := Lib.hid hin
        obtain ⟨NM, hNM⟩ : ∃ NM, NM = num K s := ⟨_, rfl⟩
        have HNM := Lib.hid hNM
        obtain ⟨w4, hw4⟩ : ∃ w4, w4 = wr := ⟨_, rfl⟩
        subst hw4
        have hout4 := HOUT.out
        have HB4 := HB
        have HS4 := HS1
        have HOS4 := HOS
        have hg4 := hg
        have hfind := (rfind_any S1 M K s w4 HB.out hKL)
        rw [hin, ← hNM] at hfind
        clear hin hNM
        go_wp2_with (first
          | (go_at_call 18; refine hfind.mono ?_; rintro e w3 ⟨rfl, rfl⟩)
          | (at_builtin; refine wpList_append2 _ rfl _ _ 32 rfl w.heap.size 3 i1 (.int .i64 0) 1 8 Try.underlying32 hi' hz0' hz1' hz2' rfl (by decide) _ k (ints (nums L (ss.take k))) rfl (hout4.alloc _) ⟨w4.heap.size, 0, none⟩ 1 1 [.int .i64 NM] rfl rfl (cell_one_new _ _ _) (by simp [Value.oneCell']) (by unfold maxLen; omega) (by omega) (by simp; omega) ?_; intro v' w5 hown5 hgrow5 _ hat5; obtain ⟨g', cap', rfl⟩ := ownsRow_succ hown5))
        go_roundw
        case rel =>
          have hF5 : Fr (fun q => (Value.slice op k oc).ownBlock = some q) w4 w5 := ((((G.refl w4).alloc _)).fr _).trans (grownBy_fr hgrow5) (fun _ _ h => h)
          refine ⟨k + 1, S1, by omega, by go_num, ?_, HS4, ?_, ?_, ((hg4.alloc _).grown hgrow5 (fun k h => (hout4.lt k h).1))⟩
          · rw [fresh_old HSK.out (by rw [← HK.out]; exact HIN.out), ← HK.out]
            exact RBk.fr HB4.out hF5 (fun q hq e => HOS4.out q e hq)
          · intro q hq h'
            rcases hat5 q hq with h | h
            · exact HOS4.out q h h'
            · have := RBk.ltS HB4.out h'
              simp at h
              omega
          · rw [nums_get HSK.out, fresh_old HSK.out (by rw [← HK.out]; exact HIN.out), ← HK.out, ← HNM.out, ints_snoc]
            exact hown5
        case measure => simp [intOf]; omega
    · obtain rfl : k = n := by omega
      have hfl : (L ++ fresh L ss).length ≤ 65536 := by
        rw [List.length_append]
        have h1 := fresh_len L ss
        have := HN.out
        omega
      rw [show ss.take k = ss from List.take_of_length_le (by have := HN.out; omega)] at hB hout
      obtain ⟨K, hK⟩ : ∃ K, K = L ++ fresh L ss := ⟨_, rfl⟩
      rw [← hK] at hB hfl
      have HK := Lib.hid hK
      clear hK
      have HB := Lib.hid hB
      obtain ⟨mv, hMb, hMo, hMS, hMD, hMlt⟩ := hB
      obtain ⟨qp, qc, rfl⟩ := ownsRow_shape hMo
      have hMx : Boxed wr M 44 (.slice qp K.length qc) := hMb
      have cM := hMx.cell
      have hRx := hg.boxed HR.out
      have cR := hRx.cell
      have fR := hRx.frozen
      have hgs := hg.size
      have HRX := Lib.hid hRx
      have HMO := Lib.hid hMo
      have HMD := Lib.hid hMD
      have HOUT := Lib.hid hout
      clear hMb hMD hMlt hMx hout hMo hRx
      have hd : decide ((65536 : Int) < (K.length : Int)) = false := by simp; omega
      go_wp2_with fail
      go_ret2
      refine ⟨_, fun q => S q ∨ (Value.slice qp K.length qc).ownBlock = some q, rfl, ?_, ⟨_, HRX.out.set _, ?_, .inl hRS, ?_, ?_⟩, ?_, ?_, ?_⟩
      · rw [← HN.out]
        exact ((Fr.refl (fun q => q = R) wr).setCell (p := ⟨R, 0, none⟩) (.inl rfl) _).ownsRow HOUT.out (fun g hg' e => by have := (HOUT.out.lt g hg').1; omega)
      · rw [← HK.out]
        exact ((Fr.refl (fun q => q = R) wr).setCell (p := ⟨R, 0, none⟩) (.inl rfl) _).ownsRow HMO.out (fun g hg' e => by have := HS1.out g (HMD.out g hg').1; omega)
      · exact fun g hg' => ⟨.inr hg', fun e => by have := HS1.out g (HMD.out g hg').1; omega⟩
      · intro q hq
        simp only [World.size_setCell]
        rcases hq with h | h
        · have := HLT.out q h; omega
        · exact (HMO.out.lt q h).2
      · exact fun q hq => hq.imp id (fun h => HS1.out q (HMD.out q h).1)
      · intro g hg' h
        rcases h with h | h
        · have := HLT.out g h; have := (HOUT.out.lt g hg').1; omega
        · exact HOS.out g hg' (HMD.out g h).1
      · exact (hg.fr S).setCell (p := ⟨R, 0, none⟩) (.inl hRS) _
end Go.Proofs.Ytamhlflacnldfaa
