/- all of a book -/
import Derived.Test.YtamhlflacnldfaaNameD
import Derived.Test.YtamhlflacnldfaaNameE
namespace Go.Proofs.Ytamhlflacnldfaa
set_option linter.unusedVariables false
set_option linter.unusedSimpArgs false
open Go.RowKit Go.Shelf Go.Maps
attribute [local go_sem] Oper.semAt_some

theorem zi_take {L : List ByteArray} {k : Nat} {s : ByteArray} (hs : L[k]? = some s) : L.zipIdx.take (k + 1) = L.zipIdx.take k ++ [(s, k)] := by
  rw [List.take_add_one, List.getElem?_zipIdx, hs]; simp
theorem zi_pre {L : List ByteArray} {pre : List (ByteArray × Nat)} (h : pre <+: L.zipIdx) : pre.map Prod.fst = L.take pre.length := by
  rw [List.prefix_iff_eq_take.1 h, List.map_take, List.zipIdx_map_fst]
  simp
theorem zi_last {L : List ByteArray} {pre : List (ByteArray × Nat)} {x : ByteArray × Nat} (h : pre ++ [x] <+: L.zipIdx) : x.2 = pre.length ∧ pre.length < L.length := by
  have hl := h.length_le
  simp at hl
  obtain ⟨t, ht⟩ := h
  have : L.zipIdx[pre.length]? = some x := by rw [← ht]; simp
  rw [List.getElem?_zipIdx] at this
  cases he : L[pre.length]? with
  | none => rw [he] at this; cases this
  | some s => rw [he] at this; simp at this; exact ⟨by rw [← this], by omega⟩

set_option maxHeartbeats 400000 in
theorem all_seq (S : Nat → Prop) (B bb : Nat) (L : List ByteArray) (w : World) (hbb : Boxed w bb 26 (.pointer (some ⟨B, 0, none⟩))) (hb : Bk S w B L) (hn : L.length ≤ 1000000) :
    Seq Try.prog 39 #[.pointer (some ⟨bb, 0, none⟩)] (fun s : ByteArray × Nat => #[.int .i64 s.2, .string s.1])
      (fun k => k = bb ∨ S k) (fun _ => False) (fun xs _ _ => xs = L.zipIdx) (fun pre _ _ => pre <+: L.zipIdx) (fun pre x => pre ++ [x] <+: L.zipIdx) w := by
  intro l J Jx W hW hJ hJx hY h0
  replace hbb := hW.boxed hbb
  replace hb := hb.g hW
  have HY := Lib.hid hY
  have HJ := Lib.hid hJ
  clear hY hJ hJx
  obtain ⟨n, hnn⟩ : ∃ n, n = L.length := ⟨_, rfl⟩
  rw [← hnn] at hn
  have HN := Lib.hid hnn
  have cb := hbb.cell
  have lt2 := hbb.lt
  have hlen := len_any S B L W hb
  rw [← hnn] at hlen
  clear hnn
  show Calls Try.prog 39 #[.func (.yield l) #[] #[], .pointer (some ⟨bb, 0, none⟩)] W _
  go_enter Try.func39, Try.ntmps39
  go_wp2_with (go_at_call 22; refine hlen.mono ?_; rintro e w3 ⟨rfl, rfl⟩)
  go_wp2_with fail
  go_loopw [6] (fun i wr => ∃ (k : Nat), k ≤ n ∧ i = .int .i64 k ∧ Boxed wr bb 26 (.pointer (some ⟨B, 0, none⟩)) ∧ Bk S wr B L ∧ J (L.zipIdx.take k) (fun _ => False) wr ∧ W.heap.size ≤ wr.heap.size) (fun i _ => n - (intOf i).toNat)
  case atStart => exact ⟨0, by omega, rfl, hbb, hb, h0, Nat.le_refl _⟩
  case round =>
    clear hbb hb h0 hlen
    obtain ⟨k, hk, rfl, hBB, hB, hj, hsz⟩ := hrel
    by_cases hlt : k < n
    · have cb := hBB.cell
      have HB := Lib.hid hB
      obtain ⟨bm, bv, Db, base, h1, h2, h3, h4, -⟩ := hB
      obtain ⟨c0, c1, -⟩ := bk_cells h1
      obtain ⟨p, c, rfl, hl, hc⟩ := (rdr_of_owns h3).at
      obtain ⟨b, o, rfl, hcell⟩ := hc (by have := HN.out; omega)
      obtain ⟨s, hs⟩ : ∃ s, L[k]? = some s := ⟨L[k]'(by have := HN.out; omega), List.getElem?_eq_getElem _⟩
      have cs := hcell k _ (strs_get hs)
      have HT := Lib.hid (zi_take hs)
      simp only [← HN.out] at c1
      clear hs h1 h2 h3 h4 hcell hl hc
      obtain ⟨fn, tmps, assign, body, hy, hR⟩ := HY.out (L.zipIdx.take k) (s, k) (fun _ => False) wr (fun k hk => hk.elim) (fun k hk => hk.elim) (by omega) hj (by rw [← HT.out]; exact List.take_prefix _ _)
      have HR := Lib.hid hR
      clear hR
      simp only at hy
      go_upto_region 3 with fail
      refine (wpIn_wide (n := 3)).1 ?_
      gi_wp2
      refine HR.out.mono ?_
      rintro e W3 hrp
      rcases hrp.elim with ⟨rfl, hfr, hj3⟩ | ⟨rfl, hfr, hj3⟩
      · gi_wp2
        go_wp2_with fail
        go_roundw
        case rel =>
          have hsz3 := hfr.size
          exact ⟨k + 1, by omega, by go_num, hfr.boxed hBB (fun h => h (.inr (.inl rfl))), HB.out.fr hfr (fun q hq h => h (.inr (.inr hq))), by rw [HT.out]; exact hj3, by omega⟩
        case measure => simp [intOf]; omega
      · gi_wp2
        go_wp2_with fail
        go_returns
        exact ⟨⟨_, rfl⟩, fun _ => False, fun _ h => h.elim, fun k hk => hk.elim, .inr ⟨_, hj3, by rw [← HT.out]; exact List.take_prefix _ _⟩⟩
    · have HT := Lib.hid (show L.zipIdx.take k = L.zipIdx from List.take_of_length_le (by have := HN.out; simp; omega))
      go_wp2_with fail
      go_returns
      exact ⟨⟨_, rfl⟩, fun _ => False, fun _ h => h.elim, fun k hk => hk.elim, .inl ⟨_, hj, HT.out⟩⟩

theorem mk_any (B : Nat) (w : World) : Calls Try.prog 36 #[.pointer (some ⟨B, 0, none⟩)] w fun e w' =>
    e = .returned (.func (.func 39) #[] #[.pointer (some ⟨w.heap.size, 0, none⟩)]) ∧ w' = w.alloc (.cells #[.pointer (some ⟨B, 0, none⟩)] 26) := by
  go_enter Try.func36, Try.ntmps36
  go_wp2
  go_ret
  exact ⟨rfl, rfl⟩
set_option maxHeartbeats 400000 in
/-- the law's all -/
theorem all_any (S : Nat → Prop) (B : Nat) (L : List ByteArray) (w : World) (hb : Bk S w B L) (hn : L.length ≤ 400) : Calls Try.prog 27 #[.pointer (some ⟨B, 0, none⟩), .int .i64 400] w fun e w' =>
    ∃ v, e = .returned v ∧ w'.ownsRow w.heap.size 9 1 v L.length (strs L) ∧ G w w' := by
  have hBlt : B < w.heap.size := by
    obtain ⟨bm, bv, D, base, h1, -⟩ := hb
    exact World.block_lt_of_cell? w _ (bk_cells h1).1
  have HB := Lib.hid hb
  clear hb
  obtain ⟨i0, hi, hz0, hz1, hz2⟩ := info_parts info9
  refine calls_of_marks Try.func27 rfl ?_
  simp only [Try.ntmps27, List.size_toArray, List.length_cons, List.length_nil, Nat.reduceAdd, Nat.reduceSub, Array.replicate_succ, Array.replicate_zero, List.push_toArray, List.append_toArray, List.nil_append, List.cons_append]
  go_wp2_with fail
  refine (mk_any B _).mono ?_
  rintro e w2 ⟨rfl, hw2⟩
  simp only [World.size_alloc] at hw2 ⊢
  have hw3 : w2 = allocs w [_, _, _, _] := hw2
  have hgw : G w w2 := by rw [hw3]; exact allocs_g _ _
  have hb0 : Boxed w2 w.heap.size 3 (.int .i64 400) := by rw [hw3]; exact boxed_at _ _ 0 _ _ rfl
  have hb1 : Boxed w2 (w.heap.size + 1) 30 (.slice none 0 0) := by rw [hw3]; exact boxed_at _ _ 1 _ _ rfl
  have hb2 : Boxed w2 (w.heap.size + 1 + 1) 30 (.slice none 0 0) := by rw [hw3]; exact boxed_at _ _ 2 _ _ rfl
  have hb3 : Boxed w2 (w.heap.size + 1 + 1 + 1) 26 (.pointer (some ⟨B, 0, none⟩)) := by rw [hw3]; exact boxed_at _ _ 3 _ _ rfl
  have hsz : w2.heap.size = w.heap.size + 4 := by rw [hw3]; exact allocs_size _ _
  clear hw3
  clear hw2
  go_wp2_with fail
  have hltS : ∀ q, S q → q < w.heap.size := fun q hq => HB.out.ltS hq
  have hro : ∀ k, (k = w.heap.size + 1 + 1 + 1 ∨ S k) → k < w2.heap.size := by
    rintro k (rfl | h)
    · omega
    · have := hltS k h; omega
  have HNR := Lib.hid (by
    rintro k h1 h2 (rfl | h)
    · omega
    · have := hltS k h; omega
    : ∀ k, w.heap.size ≤ k → k ≤ w.heap.size + 2 → ¬ (k = w.heap.size + 1 + 1 + 1 ∨ S k))
  have HRO := Lib.hid hro
  clear hltS hro
  refine range_wp (gf := 39) (lb := #[.pointer (some ⟨w.heap.size + 1 + 1 + 1, 0, none⟩)]) rfl (enters_of Try.func39 (by kernel_rfl) rfl)
    (all_seq S B (w.heap.size + 1 + 1 + 1) L w2 hb3 (HB.out.g hgw) (by omega)) (G.refl _) (fun _ h => h.elim) HRO.out (fun _ => rfl)
    (fun pre Fo W => ∃ mv, FBox w.heap.size 3 (.int .i64 400) Fo W ∧ FBox (w.heap.size + 1) 30 (.slice none 0 0) Fo W ∧ FBox (w.heap.size + 1 + 1) 30 mv Fo W ∧
      FRow w2.heap.size 9 1 mv pre.length (strs (pre.map Prod.fst)) Fo W ∧ FG w Fo W)
    (fun c pre Fo W => False)
    (fun p => Stable.ex fun v => ((Stable.box _ _ _).and ((Stable.box _ _ _).and ((Stable.box _ _ _).and ((Stable.row _ _ _ _ _ _).and (Stable.fg _))))))
    (fun c p => Stable.pure _)
    ⟨.slice none 0 0, ⟨id, hb0⟩, ⟨id, hb1⟩, ⟨id, hb2⟩, ⟨fun _ _ => id, World.ownsRow_nil _ _ _ _⟩, fun _ h => h.elim, hgw⟩
    ?a1 ?assign ?body ?done ?stop
  case assign =>
    intro l x W K hK
    gi_wp2
    exact hK
  case stop =>
    rintro D c pre It Fo W W3 hD hDl hIF hFD hIt hFo hpart hfr h
    exact h.elim
  case body =>
    rintro l pre x Fo W hfo hfl hsz2 ⟨mv, ⟨hn0, hx0⟩, ⟨hn1, hx1⟩, ⟨hn2, hx2⟩, ⟨hnr, hrow⟩, hfg, hg⟩ hpre
    obtain ⟨xs, xi⟩ := x
    obtain ⟨hxi, hpl⟩ := zi_last hpre
    simp only at hxi
    subst hxi
    obtain ⟨mp, mc, hmv⟩ := ownsRow_shape hrow
    subst hmv
    have hc0 := hx0.cell
    have hc1 := hx1.cell
    have hc2 := hx2.cell
    have hf2 := hx2.frozen
    have HH := Lib.hid hpre
    clear hpre
    have hlim : decide ((400 : Int) ≤ (pre.length : Int)) = false := by simp; omega
    gi_wp2_with (gi_at_builtin; refine wpListIn_append2 _ rfl _ _ 30 rfl w2.heap.size 9 i0 (.string ⟨#[]⟩) 1 16 Try.underlying30 hi hz0 hz1 hz2 rfl (by decide) (.slice mp pre.length mc) pre.length (strs (pre.map Prod.fst)) rfl (hrow.alloc _) ⟨W.heap.size, 0, none⟩ 1 1 [.string xs] rfl rfl (cell_one_new _ _ _) (by simp [Value.oneCell']) (by unfold maxLen; omega) (by omega) (by simp; omega) ?_; intro v' w1 hown' hgrow _ hgb; obtain ⟨g', cap', rfl⟩ := ownsRow_succ hown'; obtain ⟨hr', hf'⟩ := FRow.appended ⟨hnr, hrow⟩ hown' hgrow hgb hfl; have ho : ∀ B, B < w2.heap.size → (Value.slice mp pre.length mc).ownBlock ≠ some B := fun B hB e => (by have := (hrow.lt B e).1; omega); have hx2' := hf'.boxed hx2 (ho _ (by omega)); have hx1' := hf'.boxed hx1 (ho _ (by omega)); have hx0' := hf'.boxed hx0 (ho _ (by omega)); have hc2' := hx2'.cell; have hf2' := hx2'.frozen; clear hgb ho)
    have hFr := hf'.ofRow (Ro := _) ⟨hnr, hrow⟩ HRO.out
    have hG' : FG w Fo w1 := ⟨hfg, (((hg).alloc (.cells #[.string xs] 9)).grown hgrow (fun k hk => by have := (hrow.lt k hk).1; omega))⟩
    have n2 := HNR.out (w.heap.size + 1 + 1) (by omega) (by omega)
    have e1 : strs ((pre ++ [(xs, pre.length)]).map Prod.fst) = strs (pre.map Prod.fst) ++ [.string xs] := by simp [strs]
    have e2 : (pre ++ [(xs, pre.length)]).length = pre.length + 1 := by simp
    refine ⟨hFr.setCell (p := ⟨w.heap.size + 1 + 1, 0, none⟩) (.inl (fun h => h.elim hn2 n2)) _, .slice (some ⟨g', 0, none⟩) (pre.length + 1) cap', ?_, ?_, ?_, ?_, ?_⟩
    · exact FBox.other _ ⟨hn0, hx0'⟩ (by omega)
    · exact FBox.other _ ⟨hn1, hx1'⟩ (by omega)
    · exact FBox.set _ ⟨hn2, hx2'⟩
    · rw [e1, e2]; exact hr'.setCell (p := ⟨w.heap.size + 1 + 1, 0, none⟩) (by simp; omega) _
    · exact hG'.setCell (p := ⟨w.heap.size + 1 + 1, 0, none⟩) (by simp; omega) _
  case done =>
    rintro D xs It Fo W W3 hD hDl hIF hFD hIt hFo rfl hfr ⟨mv, ⟨hn0, hx0⟩, ⟨hn1, hx1⟩, ⟨hn2, hx2⟩, ⟨hnr, hrow⟩, hfg, hg⟩ hK
    have hc1 := hx1.cell
    have hf1 := hx1.frozen
    have hc2 := hx2.cell
    obtain ⟨mp, mc, hmv⟩ := ownsRow_shape hrow
    subst hmv
    have HROW := Lib.hid hrow
    have HDK := Lib.hid hK
    clear hrow hnr hK
    go_wp2_with fail
    have b1 := boxed_putObj (o := .deferred none) (hx1.set (.slice mp L.zipIdx.length mc)) (show w.heap.size + 1 ≠ D by omega)
    refine leave_mark (D := D) ?_ (leave_nil (v := .slice mp L.zipIdx.length mc) ?_ ⟨_, rfl, ?_, ?_⟩)
    · rw [Below.heap_setCell _ _ _ _ (by simp; omega)]; exact HDK.out
    · have b1c := b1.cell
      simp only [List.length_zipIdx] at b1c
      simp [results, Try.results27, go_sem, b1c]
    · have h1 := ownsRow_setCell_below HROW.out (a := ⟨w.heap.size + 1, 0, none⟩) (by show w.heap.size + 1 < w2.heap.size; omega) (.slice mp L.zipIdx.length mc)
      have h2 := ownsRow_putObj2 (D := D) (o := .deferred none) h1 (by rw [Below.heap_setCell _ _ _ _ (by simp; omega)]; exact HDK.out)
      have h3 := ownsRow_mono h2 (base' := w.heap.size) (by omega)
      have e1 : L.zipIdx.length = L.length := by simp
      have e2 : L.zipIdx.map Prod.fst = L := by simp
      rw [e2] at h3
      rw [e1] at h3 ⊢
      exact h3
    · exact (hg.setCell (p := ⟨w.heap.size + 1, 0, none⟩) (by simp) _).putObj (by omega) _
end Go.Proofs.Ytamhlflacnldfaa
