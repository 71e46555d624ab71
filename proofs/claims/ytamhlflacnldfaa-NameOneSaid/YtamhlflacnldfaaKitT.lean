/- lists of texts that are lent -/
import Derived.Test.YtamhlflacnldfaaNameA
import Derived.Test.YtamhlflacnldfaaReg
import Derived.Laws.BytesArg
namespace Go.Proofs.Ytamhlflacnldfaa
set_option linter.unusedVariables false
set_option linter.unusedSimpArgs false
open Go.RowKit Go.Shelf
def markT (k i : Int) : ByteArray := strOfNums [35, k, k / 256, k / 65536, 47, i % 256, i / 256 % 256, i / 65536 % 256]
theorem conv_bytes (w : World) (xs : List Int) (n : Nat) (h : xs.length = n) : (convert 67 9 (.slice (some ⟨w.heap.size, 0, none⟩) n n)).run Try.prog (w.alloc (.cells (xs.map (Value.int .u8)).toArray 5)) = .ok (.string (strOfNums xs)) (w.alloc (.cells (xs.map (Value.int .u8)).toArray 5)) :=
  run_convert_bytes_arg _ 67 5 Try.underlying67 Try.underlying5 w.heap.size 0 n n xs h (fun i hi => cell_alloc_at w _ _ _ i _ (by simp [List.getD, List.getElem?_eq_getElem (show i < xs.length by omega)])) 9 Try.underlying9
theorem markText_any (k i : Int) (w : World) (hk : 0 ≤ k) (hk2 : k ≤ 100) (hi : 0 ≤ i) (hi2 : i ≤ 100000000) : Calls Try.prog 32 #[.int .i64 k, .int .i64 i] w fun e w' => e = .returned (.string (markT k i)) ∧ G w w' := by
  have hc := conv_bytes w [35, k, k / 256, k / 65536, 47, i % 256, i / 256 % 256, i / 65536 % 256] 8 rfl
  simp only [List.map_cons, List.map_nil] at hc
  go_enter Try.func32, Try.ntmps32
  go_wp2
  go_ret
  exact ⟨rfl, (G.refl w).alloc _⟩
theorem markT_size (k i : Int) : (markT k i).size = 8 := strOfNums_size _
theorem infoT : (Try.prog.info? 9).map (fun i => (i.zero, i.size, i.bytes)) = some (some (.string ⟨#[]⟩), 1, 16) := by kernel_rfl
def marksT (k : Int) (n : Nat) : List Value := (List.range n).map fun i => .string (markT k ((i : Nat) : Int))
theorem marksT_succ (k : Int) (n : Nat) : marksT k (n + 1) = marksT k n ++ [.string (markT k (n : Int))] := by simp [marksT, List.range_succ]
/-- a list that is lent: with marks behind its end -/
def Lent (W : World) (base : Nat) (e : TypeId) (size : Nat) (v : Value) (n : Nat) (xs : List Value) : Prop :=
  ∃ g cap, v = .slice (some ⟨g, 0, none⟩) n cap ∧ W.ownsRow base e size (.slice (some ⟨g, 0, none⟩) (n + 12) cap) (n + 12) xs
theorem Lent.fr {S : Nat → Prop} {W W' : World} {base : Nat} {e : TypeId} {size n : Nat} {v : Value} {xs : List Value} (h : Lent W base e size v n xs) (hf : Fr S W W') (hs : ∀ g, v.ownBlock = some g → ¬ S g) : Lent W' base e size v n xs := by
  obtain ⟨g, cap, rfl, h2⟩ := h
  exact ⟨g, cap, rfl, hf.ownsRow h2 (fun g' hg => by cases hg; exact hs _ rfl)⟩
theorem Lent.lt {W : World} {base : Nat} {e : TypeId} {size n : Nat} {v : Value} {xs : List Value} (h : Lent W base e size v n xs) : ∀ g, v.ownBlock = some g → base ≤ g ∧ g < W.heap.size := by
  obtain ⟨g, cap, rfl, h2⟩ := h
  intro g' hg
  cases hg
  exact h2.lt g rfl
theorem ownsRow_take {W : World} {base : Nat} {e : TypeId} {size n m cap : Nat} {p : Option Addr} {xs : List Value} (h : W.ownsRow base e size (.slice p (n + m) cap) (n + m) xs) (hp : ∃ g, p = some ⟨g, 0, none⟩) :
    W.ownsRow base e size (.slice p n cap) n (xs.take (n * size)) := by
  obtain ⟨g, rfl⟩ := hp
  refine ⟨?_, .inr ?_⟩
  · rw [List.length_take, h.1, Nat.add_mul]; omega
  · rcases h.2 with ⟨h, _⟩ | ⟨g', cap', cur, hv, h1, h2, h3, h4, h5, h6⟩
    · cases h
    · cases hv
      refine ⟨g, cap, cur, rfl, h1, h2, by omega, h4, h5, ?_⟩
      rw [← h6, List.take_take, Nat.min_eq_left (Nat.mul_le_mul_right _ (by omega))]
theorem ownsRow_cap {W : World} {base : Nat} {e : TypeId} {size n cap : Nat} {p : Option Addr} {xs : List Value} (h : W.ownsRow base e size (.slice p n cap) n xs) : n ≤ cap := by
  rcases h.2 with ⟨h, h'⟩ | ⟨g', cap', cur, hv, h1, h2, h3, h4, h5, h6⟩
  · omega
  · cases hv; exact h3
theorem ownsRow_addr {W : World} {base : Nat} {e : TypeId} {size : Nat} {v : Value} {k : Nat} {xs : List Value} (h : W.ownsRow base e size v k xs) (hk : 0 < k) : ∃ g c, v = .slice (some ⟨g, 0, none⟩) k c := by
  rcases h.2 with ⟨rfl, rfl⟩ | ⟨g, cap, cur, rfl, _⟩
  · omega
  · exact ⟨_, _, rfl⟩
/-- what is lent reads as what it was lent of -/
theorem Lent.rdr {W : World} {base : Nat} {e : TypeId} {size n : Nat} {v : Value} {xs ms : List Value} (h : Lent W base e size v n (xs ++ ms)) (hl : xs.length = n * size) : Rdr W size v n xs := by
  obtain ⟨g, cap, rfl, h2⟩ := h
  have := rdr_of_owns (ownsRow_take (n := n) (m := 12) h2 ⟨g, rfl⟩)
  rwa [← hl, List.take_left'] at this
  rfl
theorem Lent.own {W : World} {base : Nat} {e : TypeId} {size n : Nat} {v : Value} {xs ms : List Value} (h : Lent W base e size v n (xs ++ ms)) (hl : xs.length = n * size) : W.ownsRow base e size v n xs := by
  obtain ⟨g, cap, rfl, h2⟩ := h
  have := ownsRow_take (n := n) (m := 12) h2 ⟨g, rfl⟩
  rwa [← hl, List.take_left'] at this
  rfl
theorem lentT_any (ss : List ByteArray) (v : Value) (w : World) (hv : Rdr w 1 v ss.length (strs ss)) (hn : ss.length ≤ 1000000) :
    Calls Try.prog 14 #[v] w fun e w' => ∃ u, e = .returned u ∧ Lent w' w.heap.size 9 1 u ss.length (strs ss ++ marksT 1 12) ∧ G w w' := by
  obtain ⟨i0, hi, hz0, hz1, hz2⟩ := info_parts infoT
  obtain ⟨p, c, rfl, hl, -⟩ := hv.at
  obtain ⟨n, hnn⟩ : ∃ n, n = ss.length := ⟨_, rfl⟩
  rw [← hnn] at hn hl hv ⊢
  have HN := Lib.hid hnn
  have HL := Lib.hid hl
  have HV := Lib.hid hv
  have HO := Lib.hid (fun u hu => by simp [strs] at hu; obtain ⟨s, _, rfl⟩ := hu; rfl : ∀ u ∈ strs ss, u.oneCell' = true)
  clear hnn hl hv
  go_enter Try.func14, Try.ntmps14
  go_wp2_with (first
    | (at_make; refine wpList_make_own w rfl _ _ _ rfl w.heap.size 9 i0 (.string ⟨#[]⟩) 1 Try.underlying30 hi hz0 hz1 .i64 .i64 _ (n + 12) rfl rfl (by omega) (by rw [hz2]; omega) (by unfold maxLen; omega) (Nat.le_refl _) ?_; intro w1 hown1 hgrow1)
    | (at_builtin; refine wpList_appendR w1 rfl _ _ 30 rfl w.heap.size 9 i0 (.string ⟨#[]⟩) 1 16 Try.underlying30 hi hz0 hz1 hz2 rfl (by decide) _ 0 [] rfl hown1 (.slice p n c) n (strs ss) rfl (HV.out.g ((G.refl w).grown hgrow1 (fun k h => by cases h))) HO.out (by unfold maxLen; omega) (by omega) (by have := hgrow1.size; omega) ?_; intro p2 c2 w2 hown2 hgrow2 hat2))
  simp only [Nat.zero_add, List.nil_append] at hown2 ⊢
  have hg2 : G w w2 := ((G.refl w).grown hgrow1 (fun k h => by cases h)).grown hgrow2 (fun k h => (hown1.lt k h).1)
  clear hown1 hgrow1 hgrow2 hat2
  go_loopw [3, 4] (fun u i wr => ∃ (j : Nat) (p' : Option Addr) (c' : Nat), j ≤ 12 ∧ i = .int .i64 j ∧ u = .slice p' (n + j) c' ∧ wr.ownsRow w.heap.size 9 1 (.slice p' (n + j) c') (n + j) (strs ss ++ marksT 1 j) ∧ G w wr) (fun _ i _ => 12 - (intOf i).toNat)
  case atStart => exact ⟨0, p2, c2, by omega, rfl, rfl, by simpa [marksT] using hown2, hg2⟩
  case round =>
    clear hown2 hg2
    obtain ⟨j, p', c', hj, rfl, rfl, hown, hg⟩ := hrel
    by_cases hlt : j < 12
    · have hgs := hg.size
      go_wp2_with (first
        | (go_at_call 32; refine (markText_any 1 j _ (by omega) (by omega) (by omega) (by omega)).mono ?_; rintro e w3 ⟨rfl, hg3⟩; have hgs3 := hg3.size)
        | (at_builtin; refine wpList_append2 _ rfl _ _ 30 rfl w.heap.size 9 i0 (.string ⟨#[]⟩) 1 16 Try.underlying30 hi hz0 hz1 hz2 rfl (by decide) _ (n + j) (strs ss ++ marksT 1 j) rfl ((hg3.ownsRow hown).alloc _) ⟨w3.heap.size, 0, none⟩ 1 1 [.string (markT 1 j)] rfl rfl (cell_one_new _ _ _) (by simp [Value.oneCell']) (by unfold maxLen; omega) (by omega) (by simp; omega) ?_; intro v' w4 hown4 hgrow4 _ hat4; obtain ⟨g', cap', rfl⟩ := ownsRow_succ hown4))
      go_roundw
      case rel =>
        refine ⟨j + 1, _, _, by omega, by go_num, rfl, ?_, ((hg.trans hg3).alloc (.cells #[.string (markT 1 j)] 9)).grown hgrow4 (fun k h => (hown.lt k h).1)⟩
        rw [marksT_succ, ← List.append_assoc]
        exact hown4
      case measure => simp [intOf]; omega
    · obtain rfl : j = 12 := by omega
      obtain ⟨g, cap, hp⟩ := ownsRow_addr hown (by omega)
      have hcap := ownsRow_cap hown
      simp only [Value.slice.injEq, true_and] at hp
      obtain ⟨rfl, rfl⟩ := hp
      have h0 : (0 : Int) ≤ (n : Int) := by omega
      have h1 : (n : Int) ≤ (c' : Int) := by omega
      go_wp2_with fail
      go_ret
      exact ⟨_, rfl, ⟨g, c', rfl, hown⟩, hg⟩
/-- it is written over -/
theorem overT_any (v : Value) (n base : Nat) (xs : List Value) (w : World) (hv : w.ownsRow base 9 1 v n xs) (hn : n ≤ 1000000) :
    Calls Try.prog 24 #[v] w fun e w' => (∃ u, e = .returned u) ∧ Fr (fun q => v.ownBlock = some q) w w' := by
  obtain ⟨p, c, rfl⟩ := ownsRow_shape hv
  have hcap := ownsRow_cap hv
  rcases hv.2 with ⟨h, hn0⟩ | ⟨g, cap, cur, h, h1, h2, h3, h4, h5, h6⟩
  · cases h
    go_enter Try.func24, Try.ntmps24
    go_wp2
    go_rounds 1
    go_returns
    exact ⟨⟨_, rfl⟩, Fr.refl _ _⟩
  · cases h
    have hsz : cur.size = c := by omega
    have hz := (Array.getElem?_eq_some_iff.1 h2).1
    have HS := Lib.hid hsz
    have H2 := Lib.hid h2
    unfold maxLen at h4
    clear hsz h2 h5 h6 hv
    by_cases hm : (c : Int) ≤ (n : Int) + 12
    · go_enter Try.func24, Try.ntmps24
      go_wp2
      go_loopw [3] (fun i wr => ∃ (j : Nat) (cs : Array Value), j ≤ c ∧ i = .int .i64 j ∧ Hid (wr.heap[g]? = some (.cells cs 9 (0, 0)) ∧ cs.size = c) ∧ Fr (fun q => some g = some q) w wr) (fun i _ => c - (intOf i).toNat)
      case atStart => exact ⟨0, cur, by omega, rfl, ⟨H2.out, HS.out⟩, Fr.refl _ _⟩
      case round =>
        obtain ⟨j, cs, hj, rfl, HC, hf⟩ := hrel
        by_cases hlt : j < c
        · have hfz := hf.size
          go_wp2_with fail
          refine (markText_any 2 j _ (by omega) (by omega) (by omega) (by omega)).mono ?_
          rintro e w3 ⟨rfl, hg3⟩
          have h3 : w3.heap[g]? = some (.cells cs 9 (0, 0)) := (hg3.block (by omega)).trans HC.out.1
          have hc3 : w3.cell? ⟨g, j, none⟩ = some (cs[j]'(by have := HC.out.2; omega)) := by unfold World.cell?; rw [h3]; simp
          have hf3 : w3.frozen? ⟨g, j, none⟩ = false := by unfold World.frozen?; rw [h3]; simp
          have H3 := Lib.hid h3
          clear h3
          go_wp2_with fail
          go_roundw
          case rel =>
            refine ⟨j + 1, _, by omega, by go_num, ⟨heap_setCell_at _ g j _ _ _ _ H3.out, by simp [HC.out.2]⟩, (hf.trans (hg3.fr _) (fun _ _ h => h)).setCell (.inl rfl) _⟩
          case measure => simp [intOf]; omega
        · go_wp2_with fail
          go_returns
          exact ⟨⟨_, rfl⟩, hf⟩
    · have hm2 : ¬ (c : Int) < (n : Int) + 12 := by omega
      go_enter Try.func24, Try.ntmps24
      go_wp2
      go_loopw [3] (fun i wr => ∃ (j : Nat) (cs : Array Value), j ≤ n + 12 ∧ i = .int .i64 j ∧ Hid (wr.heap[g]? = some (.cells cs 9 (0, 0)) ∧ cs.size = c) ∧ Fr (fun q => some g = some q) w wr) (fun i _ => n + 12 - (intOf i).toNat)
      case atStart => exact ⟨0, cur, by omega, rfl, ⟨H2.out, HS.out⟩, Fr.refl _ _⟩
      case round =>
        obtain ⟨j, cs, hj, rfl, HC, hf⟩ := hrel
        by_cases hlt : j < n + 12
        · have hfz := hf.size
          go_wp2_with fail
          refine (markText_any 2 j _ (by omega) (by omega) (by omega) (by omega)).mono ?_
          rintro e w3 ⟨rfl, hg3⟩
          have h3 : w3.heap[g]? = some (.cells cs 9 (0, 0)) := (hg3.block (by omega)).trans HC.out.1
          have hc3 : w3.cell? ⟨g, j, none⟩ = some (cs[j]'(by have := HC.out.2; omega)) := by unfold World.cell?; rw [h3]; simp
          have hf3 : w3.frozen? ⟨g, j, none⟩ = false := by unfold World.frozen?; rw [h3]; simp
          have H3 := Lib.hid h3
          clear h3
          go_wp2_with fail
          go_roundw
          case rel =>
            refine ⟨j + 1, _, by omega, by go_num, ⟨heap_setCell_at _ g j _ _ _ _ H3.out, by simp [HC.out.2]⟩, (hf.trans (hg3.fr _) (fun _ _ h => h)).setCell (.inl rfl) _⟩
          case measure => simp [intOf]; omega
        · go_wp2_with fail
          go_returns
          exact ⟨⟨_, rfl⟩, hf⟩
set_option maxHeartbeats 1000000 in
theorem keptT_yes (ss : List ByteArray) (v u : Value) (base : Nat) (w : World) (hv : Lent w base 9 1 v ss.length (strs ss ++ marksT 1 12)) (hu : Rdr w 1 u ss.length (strs ss)) (hn : ss.length ≤ 1000000) :
    Calls Try.prog 23 #[v, u] w fun e w' => e = .returned (.bool true) ∧ G w w' := by
  have hrv := hv.rdr (by simp [strs])
  obtain ⟨g, cap, rfl, hown⟩ := hv
  obtain ⟨p, c, rfl, hl, hc⟩ := hu.at
  have hcap := ownsRow_cap hown
  have hall := (rdr_of_owns hown)
  have hmx : cap ≤ 9223372036854775807 := by
    rcases hown.2 with ⟨h, _⟩ | ⟨g', cap', cur, hv, h1, h2, h3, h4, h5, h6⟩
    · cases h
    · cases hv; unfold maxLen at h4; omega
  obtain ⟨n, hnn⟩ : ∃ n, n = ss.length := ⟨_, rfl⟩
  rw [← hnn] at hn hl hc hu hown hcap hall hrv ⊢
  have HN := Lib.hid hnn
  have HA := Lib.hid hall
  have HR := Lib.hid hrv
  have HC := Lib.hid hc
  clear hnn hl hown hall hu hrv hc
  go_enter Try.func23, Try.ntmps23
  go_wp2
  go_loopw [6] (fun i wr => ∃ j : Nat, j ≤ n + 12 ∧ i = .int .i64 j ∧ G w wr) (fun i _ => n + 12 - (intOf i).toNat)
  case atStart => exact ⟨0, by omega, rfl, G.refl _⟩
  case round =>
    obtain ⟨j, hj, rfl, hg⟩ := hrel
    by_cases hlt : j < n + 12
    · by_cases hlt2 : (j : Int) < (n : Int)
      · obtain ⟨s, hs⟩ : ∃ s, ss[j]? = some s := ⟨ss[j]'(by have := HN.out; omega), List.getElem?_eq_getElem _⟩
        obtain ⟨b, o, rfl, hcell⟩ := HC.out (by omega)
        obtain ⟨b', o', hb', hcell'⟩ := HR.out.one (by omega)
        cases hb'
        have c1 := hg.cell (hcell j _ (strs_get hs))
        have c2 : wr.cell? ⟨g, j, none⟩ = some (.string s) := by have := hg.cell (hcell' j _ (strs_get hs)); rwa [Nat.zero_add] at this
        have hge : decide (n ≤ j) = false := by simpa using hlt2
        have he := str_eq (s := s) rfl
        clear hcell hcell' hs
        go_wp2_with fail
        go_quiet (fail)
        go_wp2_with fail
        go_roundw
        case rel => exact ⟨j + 1, by omega, by go_num, hg.drewN _⟩
        case measure => simp [intOf]; omega
      · have hdlt : decide (j < n) = false := by simpa using hlt2
        have hdge : decide (n ≤ j) = true := by simp; omega
        obtain ⟨k, hk⟩ : ∃ k : Nat, (j : Int) = n + k := ⟨j - n, by omega⟩
        have hk12 : k < 12 := by omega
        obtain ⟨b', o', hb', hcell'⟩ := HA.out.one (by omega)
        cases hb'
        have c2 : wr.cell? ⟨g, j, none⟩ = some (.string (markT 1 k)) := by
          have := hg.cell (hcell' j (.string (markT 1 k)) (by
            rw [List.getElem?_append_right (by rw [strs_len, ← HN.out]; omega), strs_len, ← HN.out, show j - n = k by omega]
            simp [marksT, hk12]))
          rwa [Nat.zero_add] at this
        have hsub : (j : Int) - (n : Int) = (k : Int) := by omega
        have he := str_eq (s := markT 1 k) rfl
        clear hcell' hk
        go_wp2_with fail
        refine region_hl (fun w' => w'.cell? ⟨g, j, none⟩ = some (.string (markT 1 k))) 99 35 (by kernel_rfl) rfl ?_
        simp only [List.replicate_succ, List.replicate_zero]
        have HS1 : (fun w' : World => w'.cell? ⟨g, j, none⟩ = some (.string (markT 1 k))) wr.drew := c2
        refine hl_take_np 0 (by kernel_rfl) (by kernel_rfl) rfl (by kernel_rfl) HS1 (v := ?_) ?_ ?_
        rotate_left
        · (rintro x s1; go_simp; try rfl)
        simp only [Act.put, List.setIfInBounds_toArray, List.set_cons_zero, List.set_cons_succ]
        refine hl_take_np 1 (by kernel_rfl) (by kernel_rfl) rfl (by kernel_rfl) HS1 (v := ?_) ?_ ?_
        rotate_left
        · (rintro x s1; go_simp; try rfl)
        simp only [Act.put, List.setIfInBounds_toArray, List.set_cons_zero, List.set_cons_succ]
        refine hl_take_np 2 (by kernel_rfl) (by kernel_rfl) rfl (by kernel_rfl) HS1 (v := ?_) ?_ ?_
        rotate_left
        · (rintro x s1; go_simp; try rfl)
        simp only [Act.put, List.setIfInBounds_toArray, List.set_cons_zero, List.set_cons_succ]
        refine hl_take_np 3 (by kernel_rfl) (by kernel_rfl) rfl (by kernel_rfl) HS1 (v := ?_) ?_ ?_
        rotate_left
        · (rintro x s1; go_simp; try rfl)
        simp only [Act.put, List.setIfInBounds_toArray, List.set_cons_zero, List.set_cons_succ]
        refine hl_take_np 4 (by kernel_rfl) (by kernel_rfl) rfl (by kernel_rfl) HS1 (v := ?_) ?_ ?_
        rotate_left
        · (rintro x s1; go_simp; try rfl)
        simp only [Act.put, List.setIfInBounds_toArray, List.set_cons_zero, List.set_cons_succ]
        refine hl_skip_np 5 (by kernel_rfl) (by kernel_rfl) rfl (by kernel_rfl) HS1 ?_
        simp only [Act.put, List.setIfInBounds_toArray, List.set_cons_zero, List.set_cons_succ]
        refine hl_skip_np 6 (by kernel_rfl) (by kernel_rfl) rfl (by kernel_rfl) HS1 ?_
        simp only [Act.put, List.setIfInBounds_toArray, List.set_cons_zero, List.set_cons_succ]
        refine hl_skip_np 7 (by kernel_rfl) (by kernel_rfl) rfl (by kernel_rfl) HS1 ?_
        simp only [Act.put, List.setIfInBounds_toArray, List.set_cons_zero, List.set_cons_succ]
        refine hl_skip_np 8 (by kernel_rfl) (by kernel_rfl) rfl (by kernel_rfl) HS1 ?_
        simp only [Act.put, List.setIfInBounds_toArray, List.set_cons_zero, List.set_cons_succ]
        refine hl_skip_np 9 (by kernel_rfl) (by kernel_rfl) rfl (by kernel_rfl) HS1 ?_
        simp only [Act.put, List.setIfInBounds_toArray, List.set_cons_zero, List.set_cons_succ]
        refine hl_skip_np 10 (by kernel_rfl) (by kernel_rfl) rfl (by kernel_rfl) HS1 ?_
        simp only [Act.put, List.setIfInBounds_toArray, List.set_cons_zero, List.set_cons_succ]
        refine hl_skip_np 11 (by kernel_rfl) (by kernel_rfl) rfl (by kernel_rfl) HS1 ?_
        simp only [Act.put, List.setIfInBounds_toArray, List.set_cons_zero, List.set_cons_succ]
        refine hl_skip_np 12 (by kernel_rfl) (by kernel_rfl) rfl (by kernel_rfl) HS1 ?_
        simp only [Act.put, List.setIfInBounds_toArray, List.set_cons_zero, List.set_cons_succ]
        refine hl_skip_np 13 (by kernel_rfl) (by kernel_rfl) rfl (by kernel_rfl) HS1 ?_
        simp only [Act.put, List.setIfInBounds_toArray, List.set_cons_zero, List.set_cons_succ]
        refine hl_skip_np 14 (by kernel_rfl) (by kernel_rfl) rfl (by kernel_rfl) HS1 ?_
        simp only [Act.put, List.setIfInBounds_toArray, List.set_cons_zero, List.set_cons_succ]
        refine hl_take_np 15 (by kernel_rfl) (by kernel_rfl) rfl (by kernel_rfl) HS1 (v := ?_) ?_ ?_
        rotate_left
        · (rintro x s1; go_simp; try rfl)
        simp only [Act.put, List.setIfInBounds_toArray, List.set_cons_zero, List.set_cons_succ]
        refine hl_take_np 16 (by kernel_rfl) (by kernel_rfl) rfl (by kernel_rfl) HS1 (v := ?_) ?_ ?_
        rotate_left
        · (rintro x s1; go_simp; try rfl)
        simp only [Act.put, List.setIfInBounds_toArray, List.set_cons_zero, List.set_cons_succ]
        refine hl_take_np 17 (by kernel_rfl) (by kernel_rfl) rfl (by kernel_rfl) HS1 (v := ?_) ?_ ?_
        rotate_left
        · (rintro x s1; go_simp; try rfl)
        simp only [Act.put, List.setIfInBounds_toArray, List.set_cons_zero, List.set_cons_succ]
        refine hl_take_np 18 (by kernel_rfl) (by kernel_rfl) rfl (by kernel_rfl) HS1 (v := ?_) ?_ ?_
        rotate_left
        · (rintro x s1; go_simp; try rfl)
        simp only [Act.put, List.setIfInBounds_toArray, List.set_cons_zero, List.set_cons_succ]
        refine hl_take_np 19 (by kernel_rfl) (by kernel_rfl) rfl (by kernel_rfl) HS1 (v := ?_) ?_ ?_
        rotate_left
        · (rintro x s1; go_simp; try rfl)
        simp only [Act.put, List.setIfInBounds_toArray, List.set_cons_zero, List.set_cons_succ]
        refine hl_take_np 20 (by kernel_rfl) (by kernel_rfl) rfl (by kernel_rfl) HS1 (v := ?_) ?_ ?_
        rotate_left
        · (rintro x s1; go_simp; try rfl)
        simp only [Act.put, List.setIfInBounds_toArray, List.set_cons_zero, List.set_cons_succ]
        refine hl_take_np 21 (by kernel_rfl) (by kernel_rfl) rfl (by kernel_rfl) HS1 (v := ?_) ?_ ?_
        rotate_left
        · (rintro x s1; go_simp; try rfl)
        simp only [Act.put, List.setIfInBounds_toArray, List.set_cons_zero, List.set_cons_succ]
        refine hl_take_np 22 (by kernel_rfl) (by kernel_rfl) rfl (by kernel_rfl) HS1 (v := ?_) ?_ ?_
        rotate_left
        · (rintro x s1; go_simp; try rfl)
        simp only [Act.put, List.setIfInBounds_toArray, List.set_cons_zero, List.set_cons_succ]
        refine hl_take_np 23 (by kernel_rfl) (by kernel_rfl) rfl (by kernel_rfl) HS1 (v := ?_) ?_ ?_
        rotate_left
        · (rintro x s1; go_simp; try rfl)
        simp only [Act.put, List.setIfInBounds_toArray, List.set_cons_zero, List.set_cons_succ]
        refine hl_take_np 24 (by kernel_rfl) (by kernel_rfl) rfl (by kernel_rfl) HS1 (v := ?_) ?_ ?_
        rotate_left
        · (rintro x s1; go_simp; try rfl)
        simp only [Act.put, List.setIfInBounds_toArray, List.set_cons_zero, List.set_cons_succ]
        refine hl_take_np 25 (by kernel_rfl) (by kernel_rfl) rfl (by kernel_rfl) HS1 (v := ?_) ?_ ?_
        rotate_left
        · (rintro x s1; go_simp; try rfl)
        simp only [Act.put, List.setIfInBounds_toArray, List.set_cons_zero, List.set_cons_succ]
        refine hl_take_np 26 (by kernel_rfl) (by kernel_rfl) rfl (by kernel_rfl) HS1 (v := ?_) ?_ ?_
        rotate_left
        · (rintro x s1; go_simp; try rfl)
        simp only [Act.put, List.setIfInBounds_toArray, List.set_cons_zero, List.set_cons_succ]
        refine hl_take_np 27 (by kernel_rfl) (by kernel_rfl) rfl (by kernel_rfl) HS1 (v := ?_) ?_ ?_
        rotate_left
        · (rintro x s1; go_simp; try rfl)
        simp only [Act.put, List.setIfInBounds_toArray, List.set_cons_zero, List.set_cons_succ]
        refine hl_take_np 28 (by kernel_rfl) (by kernel_rfl) rfl (by kernel_rfl) HS1 (v := ?_) ?_ ?_
        rotate_left
        · (rintro x s1; go_simp; try rfl)
        simp only [Act.put, List.setIfInBounds_toArray, List.set_cons_zero, List.set_cons_succ]
        refine hl_take_np 29 (by kernel_rfl) (by kernel_rfl) rfl (by kernel_rfl) HS1 (v := ?_) ?_ ?_
        rotate_left
        · (rintro x s1; go_simp; try rfl)
        simp only [Act.put, List.setIfInBounds_toArray, List.set_cons_zero, List.set_cons_succ]
        refine hl_stepW 30 (by kernel_rfl) rfl (by kernel_rfl) ?_
        intro K hK
        go_simp
        rw [IntWalk.i64_in _ (by omega)]
        refine (markText_any 1 k _ (by omega) (by omega) (by omega) (by omega)).mono ?_
        rintro e w3 ⟨rfl, hg3⟩
        have c3 : w3.cell? ⟨g, j, none⟩ = some (.string (markT 1 k)) := hg3.cell c2
        refine hK _ _ (fun _ => c3) ?_
        clear hK
        simp only [Act.put, List.setIfInBounds_toArray, List.set_cons_zero, List.set_cons_succ]
        refine hl_take_np 31 (by kernel_rfl) (by kernel_rfl) rfl (by kernel_rfl) c3 (v := ?_) ?_ ?_
        rotate_left
        · (rintro x s1; go_simp; try rfl)
        simp only [Act.put, List.setIfInBounds_toArray, List.set_cons_zero, List.set_cons_succ]
        refine hl_take_np 32 (by kernel_rfl) (by kernel_rfl) rfl (by kernel_rfl) c3 (v := ?_) ?_ ?_
        rotate_left
        · (rintro x s1; go_simp; try rfl)
        simp only [Act.put, List.setIfInBounds_toArray, List.set_cons_zero, List.set_cons_succ]
        refine hl_take_np 33 (by kernel_rfl) (by kernel_rfl) rfl (by kernel_rfl) c3 (v := ?_) ?_ ?_
        rotate_left
        · (rintro x s1; go_simp; try rfl)
        simp only [Act.put, List.setIfInBounds_toArray, List.set_cons_zero, List.set_cons_succ]
        refine hl_take_np 34 (by kernel_rfl) (by kernel_rfl) rfl (by kernel_rfl) c3 (v := ?_) ?_ ?_
        rotate_left
        · (rintro x s1; go_simp; try rfl)
        simp only [Act.put, List.setIfInBounds_toArray, List.set_cons_zero, List.set_cons_succ]
        refine hl_done (by kernel_rfl) ?_ _
        refine NoPanic.normal ?_
        go_wp2_with fail
        go_roundw
        case rel => exact ⟨j + 1, by omega, by go_num, hg.drew.trans hg3⟩
        case measure => simp [intOf]; omega
    · go_wp2_with fail
      go_ret
      exact ⟨rfl, hg⟩
end Go.Proofs.Ytamhlflacnldfaa
