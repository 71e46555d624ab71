/- the texts that are not there, each once: the iterator -/
import Derived.Test.YtamhlflacnldfaaDoorNameB
import Derived.Deep.CutBlock
namespace Go.Proofs.YtamhlflacnldfaaDoor
set_option linter.unusedVariables false
open Go.RowKit Go.Shelf Go.Maps
attribute [local go_sem] Oper.semAt_some

/-- those of some that are neither in L nor in pre, each once -/
def fr (L pre : List ByteArray) : List ByteArray → List ByteArray
  | [] => []
  | s :: ss => if (inL s L || inL s pre) = true then fr L pre ss else s :: fr L (pre ++ [s]) ss
def fresh (L ss : List ByteArray) : List ByteArray := fr L [] ss
theorem fr_mem {L : List ByteArray} {s : ByteArray} : ∀ {pre ss : List ByteArray}, s ∈ fr L pre ss → s ∈ ss ∧ inL s L = false ∧ inL s pre = false
  | pre, [], h => by simp [fr] at h
  | pre, x :: ss, h => by
    unfold fr at h
    split at h
    · have := fr_mem h; exact ⟨by simp [this.1], this.2⟩
    · rename_i hc
      simp only [Bool.or_eq_true, not_or, Bool.not_eq_true] at hc
      rcases List.mem_cons.1 h with rfl | h
      · exact ⟨by simp, hc⟩
      · have := fr_mem h
        exact ⟨by simp [this.1], this.2.1, by have h3 := this.2.2; rw [inL_append] at h3; simp at h3; exact h3.1⟩
theorem fresh_mem {L ss : List ByteArray} {s : ByteArray} (h : s ∈ fresh L ss) : s ∈ ss ∧ inL s L = false := ⟨(fr_mem h).1, (fr_mem h).2.1⟩
theorem fr_nodup (L : List ByteArray) : ∀ (pre ss : List ByteArray), (fr L pre ss).Nodup
  | pre, [] => List.nodup_nil
  | pre, x :: ss => by
    unfold fr
    split
    · exact fr_nodup L pre ss
    · refine List.nodup_cons.2 ⟨fun h => ?_, fr_nodup L _ ss⟩
      have := (fr_mem h).2.2
      rw [inL_append] at this
      simp at this
theorem fresh_nodup (L ss : List ByteArray) : (fresh L ss).Nodup := fr_nodup L [] ss
theorem take_fresh {L ss : List ByteArray} {k : Nat} {s : ByteArray} (h : (fresh L ss)[k]? = some s) : ((fresh L ss).take k).any (fun x => decide (x = s)) = false := by
  rw [List.any_eq_false]
  intro x hx
  simp only [decide_eq_true_eq]
  rintro rfl
  obtain ⟨h1, h2⟩ := List.getElem?_eq_some_iff.1 h
  obtain ⟨j, hj, e⟩ := List.mem_iff_getElem.1 hx
  rw [List.getElem_take] at e
  have hjk : j < k := by simp at hj; omega
  have := (List.nodup_iff_pairwise_ne.1 (fresh_nodup L ss))
  have := (List.pairwise_iff_getElem.1 this) j k (by omega) h1 hjk
  exact this (by rw [e, h2])
/-- the map of those that were seen -/
def Seen (D : DataW Unit) (pre : List ByteArray) : Prop := ∀ s, s.size ≤ maxLen → D.atKey (keyS s) (.lit (.int .i64 0)) = .lit (.int .i64 (if inL s pre = true then 1 else 0))
theorem Seen.nil : Seen (.map []) [] := fun s _ => rfl
theorem Seen.put {D : DataW Unit} {pre : List ByteArray} (h : Seen D pre) (hD : Maps.IsMap D) {s : ByteArray} (hs : s.size ≤ maxLen) : Seen (D.put (keyS s) (.lit (.int .i64 1))) (pre ++ [s]) := by
  intro x hx
  have hk : WideAt.IsKeyLit (keyS s) := lawS.key (keyS_of hs)
  by_cases e : s = x
  · subst e
    rw [Maps.atKey_put_same hD hk, inL_append]; simp
  · rw [Maps.atKey_put_other (keyS_ne (fun h => e h.symm : x ≠ s)), h x hx, inL_append]; simp [e]
theorem Seen.look {W : World} {m n : Nat} {D : DataW Unit} {pre : List ByteArray} (h : Seen D pre) (hown : W.ownsMap Tryd.prog 9 (plainElem Tryd.prog 3) m n D) {s : ByteArray} (hs : s.size ≤ maxLen) :
    (Instr.lookup 36 (.map (some m)) (.string s) false).run Tryd.prog W = .ok (.int .i64 (if inL s pre = true then 1 else 0)) W := by
  obtain ⟨c, hrun2, hat, _⟩ := hown.lookup_int lawS Tryd.underlying36 Tryd.underlying3 (zeroI _) (keyS_of hs)
  rw [h s hs] at hat
  simp only [DataW.lit.injEq, Lit.int.injEq, true_and] at hat
  rw [hat]; exact hrun2
theorem ownsMap_fr {S : Nat → Prop} {W W' : World} {k : TypeId} {R : Value → Option (DataW Unit × List MemPlace)} {m n : Nat} {D : DataW Unit} (h : W.ownsMap Tryd.prog k R m n D) (hf : Fr S W W') (hs : ¬ S m) : W'.ownsMap Tryd.prog k R m n D := by
  obtain ⟨es, clock, hb, r⟩ := h
  exact ⟨es, clock, (hf.block m (Array.getElem?_eq_some_iff.1 hb).1 hs).trans hb, r⟩

theorem bk_put {S' : Nat → Prop} {w1 w3 : World} {B bm gg cap : Nat} {ov : Value} {Lk : List ByteArray} {s : ByteArray} {D : DataW Unit}
    (h1 : w1.heap[B]? = some (.cells #[.map (some bm), ov] 38 (0, 0))) (hM : w1.ownsMap Tryd.prog 9 (plainElem Tryd.prog 3) bm (Lk.length + 1) (D.put (keyS s) (.lit (.int .i64 Lk.length))))
    (h4 : Num D Lk) (hD : Maps.IsMap D) (h5 : Lk.Nodup) (h6 : ∀ s ∈ Lk, s.size ≤ maxLen) (hs : s.size ≤ maxLen) (hn : inL s Lk = false)
    (hown : w3.ownsRow 0 9 1 (.slice (some ⟨gg, 0, none⟩) (Lk.length + 1) cap) (Lk.length + 1) (strs Lk ++ [.string s])) (hf : Fr (fun q => ov.ownBlock = some q) w1 w3)
    (hat : ov.ownBlock = some gg ∨ w1.heap.size ≤ gg) (hlt : gg < w3.heap.size) (h7 : S' B) (h8 : S' bm) (h9 : ∀ g, ov.ownBlock = some g → S' g ∧ g ≠ B ∧ g ≠ bm) (h10 : bm ≠ B) (h11 : ∀ k, S' k → k < w1.heap.size) :
    Bk (fun q => S' q ∨ q = gg) (w3.setCell ⟨B, 1, none⟩ (.slice (some ⟨gg, 0, none⟩) (Lk.length + 1) cap)) B (Lk ++ [s]) := by
  have hBo : ov.ownBlock ≠ some B := fun e => (h9 B e).2.1 rfl
  have hbo : ov.ownBlock ≠ some bm := fun e => (h9 bm e).2.2 rfl
  have hgB : gg ≠ B := fun e => hat.elim (fun h => (h9 gg h).2.1 e) (fun h => by have := h11 B h7; omega)
  have hgb : gg ≠ bm := fun e => hat.elim (fun h => (h9 gg h).2.2 e) (fun h => by have := h11 bm h8; omega)
  have hsz := hf.size
  have h13 := (hf.block B (h11 B h7) hBo).trans h1
  refine ⟨bm, .slice (some ⟨gg, 0, none⟩) (Lk.length + 1) cap, _, 0, ?_, ?_, ?_, h4.put hD hs hn, ?_, ?_, .inl h7, .inl h8, ?_, h10, ?_⟩
  · rw [heap_setCell_at w3 B 1 _ _ _ _ h13]; rfl
  · have hfs : Fr (fun k => k = B) w3 (w3.setCell ⟨B, 1, none⟩ (.slice (some ⟨gg, 0, none⟩) (Lk.length + 1) cap)) := (Fr.refl (fun k => k = B) w3).setCell (p := ⟨B, 1, none⟩) (.inl rfl) _
    have := ownsMap_fr (ownsMap_fr hM hf hbo) hfs h10
    simpa using this
  · have e1 : (Lk ++ [s]).length = Lk.length + 1 := by simp
    have e2 : strs (Lk ++ [s]) = strs Lk ++ [.string s] := by simp [strs]
    rw [e1, e2]
    exact ((Fr.refl (fun k => k = B) w3).setCell (p := ⟨B, 1, none⟩) (.inl rfl) _).ownsRow hown (fun g hg e => by cases hg; exact hgB e)
  · refine List.nodup_append.2 ⟨h5, by simp, ?_⟩
    intro a ha b hb e
    simp at hb; subst hb; subst e
    rw [inL_iff.2 ha] at hn; cases hn
  · intro x hx
    simp at hx
    exact hx.elim (h6 x) (fun e => e ▸ hs)
  · intro g hg
    cases hg
    exact ⟨.inr rfl, hgB, hgb⟩
  · rintro k (hk | rfl)
    · have := h11 k hk; simp; omega
    · simpa using hlt
set_option maxHeartbeats 400000 in
theorem fresh_seq (S : Nat → Prop) (B bt bb : Nat) (L ss : List ByteArray) (v : Value) (w : World) (hbt : Boxed w bt 25 v) (hbb : Boxed w bb 23 (.pointer (some ⟨B, 0, none⟩)))
    (hv : Rdr w 1 v ss.length (strs ss)) (hb : Bk S w B L) (hss : ∀ s ∈ ss, s.size ≤ maxLen) (hn : ss.length ≤ maxLen) :
    Seq Tryd.prog 19 #[.pointer (some ⟨bt, 0, none⟩), .pointer (some ⟨bb, 0, none⟩)] (fun s : ByteArray => #[.string s])
      (fun k => k = bt ∨ k = bb ∨ S k ∨ (0 < ss.length ∧ v.ownBlock = some k)) (fun _ => False) (fun xs _ _ => xs = fresh L ss) (fun pre _ _ => pre <+: fresh L ss) (fun pre x => pre ++ [x] <+: fresh L ss ∧ x.size ≤ maxLen) w := by
  intro l J Jx W hW hJ hJx hY h0
  replace hbt := hW.boxed hbt
  replace hbb := hW.boxed hbb
  replace hv := hv.g hW
  replace hb := hb.g hW
  unfold maxLen at hn
  have HY := Lib.hid hY
  have HJ := Lib.hid hJ
  have HJx := Lib.hid hJx
  clear hY hJ hJx
  obtain ⟨p, c, rfl, hl, -⟩ := hv.at
  obtain ⟨n, hnn⟩ : ∃ n, n = ss.length := ⟨_, rfl⟩
  rw [← hnn] at hn hl hv hbt
  have HN := Lib.hid hnn
  have HSS := Lib.hid hss
  have HLV := Lib.hid (fun h => hv.lt h (by omega) : 0 < n → ∀ g, (Value.slice p n c).ownBlock = some g → g < W.heap.size)
  have HLS := Lib.hid (fun q hq => hb.ltS hq : ∀ q, S q → q < W.heap.size)
  have ct := hbt.cell
  have cb := hbb.cell
  have lt1 := hbt.lt
  have lt2 := hbb.lt
  have hJ0 := HJ.out [] _ (fun k => k = W.heap.size) _ (W.alloc (.map #[] 0)) h0 (fun _ h => h.elim) (fun k hk => .inr (by omega)) (((G.refl W).alloc _).fr _)
  have hM0 := World.ownsMap_made W Tryd.prog 9 (plainElem (H := Unit) Tryd.prog 3)
  have hV0 := hv.alloc (.map #[] 0)
  have hB0 := hb.g ((G.refl W).alloc (.map #[] 0))
  have hT0 := hbt.alloc (.map #[] 0)
  have hBB0 := hbb.alloc (.map #[] 0)
  have hmm := @run_makeMap Tryd.prog
  clear hnn hl hss h0 hv hb hbt hbb
  show Calls Tryd.prog 19 #[.func (.yield l) #[] #[], .pointer (some ⟨bt, 0, none⟩), .pointer (some ⟨bb, 0, none⟩)] W _
  go_enter Tryd.func19, Tryd.ntmps19
  go_step3
  go_wp2_with fail
  go_step3
  go_wp2_with fail
  go_loopw [12] (fun i wr => ∃ (k : Nat) (pre : List ByteArray) (D : DataW Unit), k ≤ n ∧ i = .int .i64 k ∧ Hid (fresh L ss = pre ++ fr L pre (ss.drop k)) ∧ Boxed wr bt 25 (.slice p n c) ∧ Boxed wr bb 23 (.pointer (some ⟨B, 0, none⟩)) ∧
    Rdr wr 1 (.slice p n c) n (strs ss) ∧ Bk S wr B L ∧ wr.ownsMap Tryd.prog 9 (plainElem Tryd.prog 3) W.heap.size k D ∧ Seen D pre ∧ J pre (fun k => k = W.heap.size) wr ∧ W.heap.size < wr.heap.size) (fun i _ => n - (intOf i).toNat)
  case atStart => exact ⟨0, [], .map [], by omega, rfl, (rfl : fresh L ss = [] ++ fr L [] (ss.drop 0)), hT0, hBB0, hV0, hB0, hM0, Seen.nil, hJ0, by simp⟩
  case round =>
    clear hT0 hBB0 hV0 hB0 hM0 hJ0
    obtain ⟨k, pre, D, hk, rfl, HF, hT, hBB, hV, hB, hM, hS, hj, hsz⟩ := hrel
    by_cases hlt : k < n
    · have ct := hT.cell
      have cb := hBB.cell
      obtain ⟨b, o, rfl, hcell⟩ := hV.one (by omega)
      obtain ⟨s, hs⟩ : ∃ s, ss[k]? = some s := ⟨ss[k]'(by have := HN.out; omega), List.getElem?_eq_getElem _⟩
      have cs := hcell k _ (strs_get hs)
      have hsz1 : s.size ≤ maxLen := HSS.out s (List.mem_of_getElem? hs)
      have hdrop : ss.drop k = s :: ss.drop (k + 1) := by
        obtain ⟨h1, h2⟩ := List.getElem?_eq_some_iff.1 hs
        rw [← h2]; exact List.drop_eq_getElem_cons h1
      have HB := Lib.hid hB
      obtain ⟨bm, bv, Db, base, h1, h2, h3, h4, -⟩ := hB
      obtain ⟨c0, c1, -⟩ := bk_cells h1
      have hl1 := (h4.look h2 hsz1).1
      have hl2 := hS.look hM hsz1
      generalize num L s = nu at hl1
      have HD := Lib.hid hdrop
      have HC := Lib.hid hcell
      clear hs h1 h2 h3 h4 hdrop hcell
      cases hi1 : inL s L
      · rw [hi1] at hl1
        cases hi2 : inL s pre
        · rw [hi2] at hl2
          simp only [Bool.false_eq_true, if_false] at hl2
          have H1 := Lib.hid hi1
          have H2 := Lib.hid hi2
          have HF1 := Lib.hid (show fresh L ss = (pre ++ [s]) ++ fr L (pre ++ [s]) (ss.drop (k + 1)) by rw [HF.out, HD.out, fr, hi1, hi2]; simp)
          have hput := hS.put hM.isMap hsz1
          clear hi1 hi2
          go_upto_region 7 with (at_mapUpdate; refine wpList_mapUpdate_own _ rfl _ _ _ 36 rfl 9 3 lawS Tryd.underlying36 _ W.heap.size k D rfl hM (by unfold maxLen; omega) _ _ _ rfl rfl (keyS_of hsz1) (.lit (.int .i64 1)) [] (plainElem_int Tryd.underlying3 (by decide)) ?_; intro w1 hM1 hgrow1)
          have hf1 : Fr (fun k => k = W.heap.size) wr w1 := (grownBy_fr hgrow1).mono (fun i e => (Option.some.inj e).symm)
          have hj1 := HJ.out _ _ _ _ _ hj (fun _ h => h) (fun _ h => .inl h) hf1
          have hsz1' := hf1.size
          have ltS : ∀ q, S q → q < W.heap.size := HLS.out
          obtain ⟨fn, tmps, assign, body, hy, hR⟩ := HY.out pre s (fun k => k = W.heap.size) w1 (fun k hk => .inr (by omega)) (fun k hk => by omega) (by omega) hj1 ⟨by rw [HF1.out]; exact List.prefix_append _ _, hsz1⟩
          have HR := Lib.hid hR
          clear hR
          refine (wpIn_wide (n := 3)).1 ?_
          gi_wp2
          refine HR.out.mono ?_
          rintro e W3 hrp
          rcases hrp.elim with ⟨rfl, hfr, hj3⟩ | ⟨rfl, hfr, hj3⟩
          · gi_wp2
            go_wp2_with fail
            go_roundw
            case rel =>
              have hsz3 := hfr.size
              refine ⟨k + 1, pre ++ [s], D.put (keyS s) (.lit (.int .i64 1)), by omega, by go_num, HF1.out, hfr.boxed (hf1.boxed hT (by omega)) (fun h => h (.inr (.inl rfl))), hfr.boxed (hf1.boxed hBB (by omega)) (fun h => h (.inr (.inr (.inl rfl)))),
                (hV.fr hf1 ?_).fr hfr (fun g hg h => h (.inr (.inr (.inr (.inr ⟨by have := HN.out; omega, hg⟩))))), (HB.out.fr hf1 (fun q hq e => by have := ltS q hq; omega)).fr hfr (fun q hq h => h (.inr (.inr (.inr (.inl hq))))), ownsMap_fr hM1 hfr (fun h => h (.inl rfl)), hput, hj3, by omega⟩
              intro g hg e
              have := HLV.out (by omega) g hg
              omega
            case measure => simp [intOf]; omega
          · gi_wp2
            go_wp2_with fail
            rw [Exit.noGoto_ret]
            go_returns
            exact ⟨⟨_, rfl⟩, fun k => k = W.heap.size, fun _ h => h.elim, fun k hk => .inr (by omega), .inr ⟨_, hj3, by rw [HF1.out]; exact List.prefix_append _ _⟩⟩
        · rw [hi2] at hl2
          simp only [if_true] at hl2
          have H1 := Lib.hid hi1
          have H2 := Lib.hid hi2
          clear hi1 hi2
          go_wp2_with fail
          go_roundw
          case rel => exact ⟨k + 1, pre, D, by omega, by go_num, (by rw [HF.out, HD.out, fr, H1.out, H2.out]; rfl : fresh L ss = pre ++ fr L pre (ss.drop (k + 1))), hT, hBB, hV, HB.out, hM.mono (by omega), hS, hj, hsz⟩
          case measure => simp [intOf]; omega
      · rw [hi1] at hl1
        have H1 := Lib.hid hi1
        have HL2 := Lib.hid hl2
        clear hi1 hl2
        go_wp2_with fail
        go_roundw
        case rel => exact ⟨k + 1, pre, D, by omega, by go_num, (by rw [HF.out, HD.out, fr, H1.out]; rfl : fresh L ss = pre ++ fr L pre (ss.drop (k + 1))), hT, hBB, hV, HB.out, hM.mono (by omega), hS, hj, hsz⟩
        case measure => simp [intOf]; omega
    · have hdone : fr L pre (ss.drop k) = [] := by rw [List.drop_of_length_le (by have := HN.out; omega)]; rfl
      have HF' := Lib.hid (show pre = fresh L ss by rw [HF.out, hdone]; simp)
      clear hdone
      go_wp2_with fail
      rw [Exit.noGoto_normal]
      go_returns
      exact ⟨⟨_, rfl⟩, fun k => k = W.heap.size, fun _ h => h.elim, fun k hk => .inr (by omega), .inl ⟨_, hj, HF'.out⟩⟩
end Go.Proofs.YtamhlflacnldfaaDoor
