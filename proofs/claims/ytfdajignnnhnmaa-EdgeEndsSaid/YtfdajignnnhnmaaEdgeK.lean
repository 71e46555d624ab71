/- bytes: lent, kept, the same -/
import Derived.Test.YtfdajignnnhnmaaEdgeB
import Derived.Laws.BytesArg
namespace Go.Proofs.Ytfdajignnnhnmaa
set_option linter.unusedVariables false
set_option linter.unusedSimpArgs false
open Go.RowKit Go.Shelf
attribute [local go_sem] Oper.semAt_some

def bys (l : List UInt8) : List Value := l.map (fun c => .int .u8 c.toNat)
theorem bys_get {ss : List UInt8} {k : Nat} {s : UInt8} (h : ss[k]? = some s) : (bys ss)[k]? = some (.int .u8 s.toNat) := by simp [bys, h]
theorem bys_len (ss : List UInt8) : (bys ss).length = ss.length := by simp [bys]
theorem bys_app (l m : List UInt8) : bys (l ++ m) = bys l ++ bys m := by simp [bys]
theorem bys_one (l : List UInt8) : ∀ u ∈ bys l, u.oneCell' = true := by
  intro u hu; simp only [bys, List.mem_map] at hu; obtain ⟨c, -, rfl⟩ := hu; rfl
theorem mark_any (k i : Int) (w : World) (hk : 0 ≤ k) (hk2 : k ≤ 100) (hi : 0 ≤ i) (hi2 : i ≤ 100000000) : Calls Try.prog 70 #[.int .i64 k, .int .i64 i] w fun e w' => e = .returned (.int .i64 (1000003 * (k + 7) + i)) ∧ w = w' := by
  go_enter Try.func70, Try.ntmps70
  go_wp2
  go_ret
  exact ⟨rfl, rfl⟩
def mB (k i : Int) : Int := IntKind.u64.wrap ((1000003 * (k + 7) + i) * 11400714819323198485) / 72057594037927936 % 256
theorem markByte_any (k i : Int) (w : World) (hk : 0 ≤ k) (hk2 : k ≤ 100) (hi : 0 ≤ i) (hi2 : i ≤ 100000000) : Calls Try.prog 37 #[.int .i64 k, .int .i64 i] w fun e w' => e = .returned (.int .u8 (mB k i)) ∧ w = w' := by
  have hm := mark_any k i w hk hk2 hi hi2
  have HM := Lib.hid hm
  have b0 : 0 ≤ 1000003 * (k + 7) + i := by omega
  have b1 : 1000003 * (k + 7) + i ≤ 300000000 := by omega
  obtain ⟨m, hmm⟩ : ∃ m, m = 1000003 * (k + 7) + i := ⟨_, rfl⟩
  rw [← hmm] at HM b0 b1
  have HMM := Lib.hid hmm
  clear hm hmm
  go_enter Try.func37, Try.ntmps37
  go_wp2_with fail
  refine HM.out.mono ?_
  rintro e w' ⟨rfl, rfl⟩
  go_wp2_with fail
  go_ret
  exact ⟨by rw [mB, ← HMM.out]; rfl, rfl⟩
theorem infoB : (Try.prog.info? 5).map (fun i => (i.zero, i.size, i.bytes)) = some (some (.int .u8 0), 1, 1) := by kernel_rfl
def marksB (k : Int) (n : Nat) : List Value := (List.range n).map fun i => .int .u8 (mB k ((i : Nat) : Int))
theorem marksB_succ (k : Int) (n : Nat) : marksB k (n + 1) = marksB k n ++ [.int .u8 (mB k (n : Int))] := by simp [marksB, List.range_succ]
/-- a list that is lent: with marks behind its end -/
def Lent (W : World) (base : Nat) (e : TypeId) (size : Nat) (v : Value) (n : Nat) (xs : List Value) : Prop :=
  ∃ g cap, v = .slice (some ⟨g, 0, none⟩) n cap ∧ W.ownsRow base e size (.slice (some ⟨g, 0, none⟩) (n + 12) cap) (n + 12) xs
theorem Lent.fr {S : Nat → Prop} {W W' : World} {base : Nat} {e : TypeId} {size n : Nat} {v : Value} {xs : List Value} (h : Lent W base e size v n xs) (hf : Fr S W W') (hs : ∀ g, v.ownBlock = some g → ¬ S g) : Lent W' base e size v n xs := by
  obtain ⟨g, cap, rfl, h2⟩ := h
  exact ⟨g, cap, rfl, hf.ownsRow h2 (fun g' hg => by cases hg; exact hs _ rfl)⟩
theorem Lent.lt {W : World} {base : Nat} {e : TypeId} {size n : Nat} {v : Value} {xs : List Value} (h : Lent W base e size v n xs) : ∀ g, v.ownBlock = some g → base ≤ g ∧ g < W.heap.size := by
  obtain ⟨g, cap, rfl, h2⟩ := h
  intro g' hg
  cases hg
  exact h2.lt g rfl
theorem ownsRow_take {W : World} {base : Nat} {e : TypeId} {size n m cap : Nat} {p : Option Addr} {xs : List Value} (h : W.ownsRow base e size (.slice p (n + m) cap) (n + m) xs) (hp : ∃ g, p = some ⟨g, 0, none⟩) :
    W.ownsRow base e size (.slice p n cap) n (xs.take (n * size)) := by
  obtain ⟨g, rfl⟩ := hp
  refine ⟨?_, .inr ?_⟩
  · rw [List.length_take, h.1, Nat.add_mul]; omega
  · rcases h.2 with ⟨h, _⟩ | ⟨g', cap', cur, hv, h1, h2, h3, h4, h5, h6⟩
    · cases h
    · cases hv
      refine ⟨g, cap, cur, rfl, h1, h2, by omega, h4, h5, ?_⟩
      rw [← h6, List.take_take, Nat.min_eq_left (Nat.mul_le_mul_right _ (by omega))]
theorem ownsRow_cap {W : World} {base : Nat} {e : TypeId} {size n cap : Nat} {p : Option Addr} {xs : List Value} (h : W.ownsRow base e size (.slice p n cap) n xs) : n ≤ cap := by
  rcases h.2 with ⟨h, h'⟩ | ⟨g', cap', cur, hv, h1, h2, h3, h4, h5, h6⟩
  · omega
  · cases hv; exact h3
theorem ownsRow_addr {W : World} {base : Nat} {e : TypeId} {size : Nat} {v : Value} {k : Nat} {xs : List Value} (h : W.ownsRow base e size v k xs) (hk : 0 < k) : ∃ g c, v = .slice (some ⟨g, 0, none⟩) k c := by
  rcases h.2 with ⟨rfl, rfl⟩ | ⟨g, cap, cur, rfl, _⟩
  · omega
  · exact ⟨_, _, rfl⟩
/-- what is lent reads as what it was lent of -/
theorem Lent.rdr {W : World} {base : Nat} {e : TypeId} {size n : Nat} {v : Value} {xs ms : List Value} (h : Lent W base e size v n (xs ++ ms)) (hl : xs.length = n * size) : Rdr W size v n xs := by
  obtain ⟨g, cap, rfl, h2⟩ := h
  have := rdr_of_owns (ownsRow_take (n := n) (m := 12) h2 ⟨g, rfl⟩)
  rwa [← hl, List.take_left'] at this
  rfl
theorem Lent.own {W : World} {base : Nat} {e : TypeId} {size n : Nat} {v : Value} {xs ms : List Value} (h : Lent W base e size v n (xs ++ ms)) (hl : xs.length = n * size) : W.ownsRow base e size v n xs := by
  obtain ⟨g, cap, rfl, h2⟩ := h
  have := ownsRow_take (n := n) (m := 12) h2 ⟨g, rfl⟩
  rwa [← hl, List.take_left'] at this
  rfl
theorem lentB_any (ss : List UInt8) (v : Value) (w : World) (hv : Rdr w 1 v ss.length (bys ss)) (hn : ss.length ≤ 1000000) :
    Calls Try.prog 10 #[v] w fun e w' => ∃ u, e = .returned u ∧ Lent w' w.heap.size 5 1 u ss.length (bys ss ++ marksB 1 12) ∧ G w w' := by
  obtain ⟨i0, hi, hz0, hz1, hz2⟩ := info_parts infoB
  obtain ⟨p, c, rfl, hl, -⟩ := hv.at
  obtain ⟨n, hnn⟩ : ∃ n, n = ss.length := ⟨_, rfl⟩
  rw [← hnn] at hn hl hv ⊢
  have HN := Lib.hid hnn
  have HL := Lib.hid hl
  have HV := Lib.hid hv
  have HO := Lib.hid (bys_one ss)
  clear hnn hl hv
  go_enter Try.func10, Try.ntmps10
  go_wp2_with (first
    | (at_make; refine wpList_make_own w rfl _ _ _ rfl w.heap.size 5 i0 (.int .u8 0) 1 Try.underlying22 hi hz0 hz1 .i64 .i64 _ (n + 12) rfl rfl (by omega) (by rw [hz2]; omega) (by unfold maxLen; omega) (Nat.le_refl _) ?_; intro w1 hown1 hgrow1)
    | (at_builtin; refine wpList_appendR w1 rfl _ _ 22 rfl w.heap.size 5 i0 (.int .u8 0) 1 1 Try.underlying22 hi hz0 hz1 hz2 rfl (by decide) _ 0 [] rfl hown1 (.slice p n c) n (bys ss) rfl (HV.out.g ((G.refl w).grown hgrow1 (fun k h => by cases h))) HO.out (by unfold maxLen; omega) (by omega) (by have := hgrow1.size; omega) ?_; intro p2 c2 w2 hown2 hgrow2 hat2))
  simp only [Nat.zero_add, List.nil_append] at hown2 ⊢
  have hg2 : G w w2 := ((G.refl w).grown hgrow1 (fun k h => by cases h)).grown hgrow2 (fun k h => (hown1.lt k h).1)
  clear hown1 hgrow1 hgrow2 hat2
  go_loopw [3, 4] (fun u i wr => ∃ (j : Nat) (p' : Option Addr) (c' : Nat), j ≤ 12 ∧ i = .int .i64 j ∧ u = .slice p' (n + j) c' ∧ wr.ownsRow w.heap.size 5 1 (.slice p' (n + j) c') (n + j) (bys ss ++ marksB 1 j) ∧ G w wr) (fun _ i _ => 12 - (intOf i).toNat)
  case atStart => exact ⟨0, p2, c2, by omega, rfl, rfl, by simpa [marksB] using hown2, hg2⟩
  case round =>
    clear hown2 hg2
    obtain ⟨j, p', c', hj, rfl, rfl, hown, hg⟩ := hrel
    by_cases hlt : j < 12
    · have hgs := hg.size
      go_wp2_with (first
        | (go_at_call 37; refine (markByte_any 1 j _ (by omega) (by omega) (by omega) (by omega)).mono ?_; rintro e w3 ⟨rfl, hw3⟩; have hg3 : G wr w3 := (by rw [← hw3]; exact G.refl wr); have hgs3 := hg3.size; clear hw3)
        | (at_builtin; refine wpList_append2 _ rfl _ _ 22 rfl w.heap.size 5 i0 (.int .u8 0) 1 1 Try.underlying22 hi hz0 hz1 hz2 rfl (by decide) _ (n + j) (bys ss ++ marksB 1 j) rfl ((hg3.ownsRow hown).alloc _) ⟨w3.heap.size, 0, none⟩ 1 1 [.int .u8 (mB 1 j)] rfl rfl (cell_one_new _ _ _) (by simp [Value.oneCell']) (by unfold maxLen; omega) (by omega) (by simp; omega) ?_; intro v' w4 hown4 hgrow4 _ hat4; obtain ⟨g', cap', rfl⟩ := ownsRow_succ hown4))
      go_roundw
      case rel =>
        refine ⟨j + 1, _, _, by omega, by go_num, rfl, ?_, ((hg.trans hg3).alloc (.cells #[.int .u8 (mB 1 j)] 5)).grown hgrow4 (fun k h => (hown.lt k h).1)⟩
        rw [marksB_succ, ← List.append_assoc]
        exact hown4
      case measure => simp [intOf]; omega
    · obtain rfl : j = 12 := by omega
      obtain ⟨g, cap, hp⟩ := ownsRow_addr hown (by omega)
      have hcap := ownsRow_cap hown
      simp only [Value.slice.injEq, true_and] at hp
      obtain ⟨rfl, rfl⟩ := hp
      have h0 : (0 : Int) ≤ (n : Int) := by omega
      have h1 : (n : Int) ≤ (c' : Int) := by omega
      go_wp2_with fail
      go_ret
      exact ⟨_, rfl, ⟨g, c', rfl, hown⟩, hg⟩
set_option maxHeartbeats 1000000 in
theorem keptB_yes (ss : List UInt8) (v u : Value) (base : Nat) (w : World) (hv : Lent w base 5 1 v ss.length (bys ss ++ marksB 1 12)) (hu : Rdr w 1 u ss.length (bys ss)) (hn : ss.length ≤ 1000000) :
    Calls Try.prog 14 #[v, u] w fun e w' => e = .returned (.bool true) ∧ G w w' := by
  have hrv := hv.rdr (by simp [bys])
  obtain ⟨g, cap, rfl, hown⟩ := hv
  obtain ⟨p, c, rfl, hl, hc⟩ := hu.at
  have hcap := ownsRow_cap hown
  have hall := (rdr_of_owns hown)
  have hmx : cap ≤ 9223372036854775807 := by
    rcases hown.2 with ⟨h, _⟩ | ⟨g', cap', cur, hv, h1, h2, h3, h4, h5, h6⟩
    · cases h
    · cases hv; unfold maxLen at h4; omega
  obtain ⟨n, hnn⟩ : ∃ n, n = ss.length := ⟨_, rfl⟩
  rw [← hnn] at hn hl hc hu hown hcap hall hrv ⊢
  have HN := Lib.hid hnn
  have HA := Lib.hid hall
  have HR := Lib.hid hrv
  have HC := Lib.hid hc
  clear hnn hl hown hall hu hrv hc
  go_enter Try.func14, Try.ntmps14
  go_wp2
  go_loopw [6] (fun i wr => ∃ j : Nat, j ≤ n + 12 ∧ i = .int .i64 j ∧ G w wr) (fun i _ => n + 12 - (intOf i).toNat)
  case atStart => exact ⟨0, by omega, rfl, G.refl _⟩
  case round =>
    obtain ⟨j, hj, rfl, hg⟩ := hrel
    by_cases hlt : j < n + 12
    · by_cases hlt2 : (j : Int) < (n : Int)
      · obtain ⟨s, hs⟩ : ∃ s, ss[j]? = some s := ⟨ss[j]'(by have := HN.out; omega), List.getElem?_eq_getElem _⟩
        obtain ⟨b, o, rfl, hcell⟩ := HC.out (by omega)
        obtain ⟨b', o', hb', hcell'⟩ := HR.out.one (by omega)
        cases hb'
        have c1 := hg.cell (hcell j _ (bys_get hs))
        have c2 : wr.cell? ⟨g, j, none⟩ = some (.int .u8 s.toNat) := by have := hg.cell (hcell' j _ (bys_get hs)); rwa [Nat.zero_add] at this
        have hge : decide (n ≤ j) = false := by simpa using hlt2
        clear hcell hcell' hs
        go_wp2_with fail
        go_quiet (fail)
        go_wp2_with fail
        go_roundw
        case rel => exact ⟨j + 1, by omega, by go_num, hg.drewN _⟩
        case measure => simp [intOf]; omega
      · have hdlt : decide (j < n) = false := by simpa using hlt2
        have hdge : decide (n ≤ j) = true := by simp; omega
        obtain ⟨k, hk⟩ : ∃ k : Nat, (j : Int) = n + k := ⟨j - n, by omega⟩
        have hk12 : k < 12 := by omega
        obtain ⟨b', o', hb', hcell'⟩ := HA.out.one (by omega)
        cases hb'
        have c2 : wr.cell? ⟨g, j, none⟩ = some (.int .u8 (mB 1 k)) := by
          have := hg.cell (hcell' j (.int .u8 (mB 1 k)) (by
            rw [List.getElem?_append_right (by rw [bys_len, ← HN.out]; omega), bys_len, ← HN.out, show j - n = k by omega]
            simp [marksB, hk12]))
          rwa [Nat.zero_add] at this
        have hsub : (j : Int) - (n : Int) = (k : Int) := by omega
        clear hcell' hk
        go_wp2_with fail
        refine region_hl (fun w' => w'.cell? ⟨g, j, none⟩ = some (.int .u8 (mB 1 k))) 99 35 (by kernel_rfl) rfl ?_
        simp only [List.replicate_succ, List.replicate_zero]
        have HS1 : (fun w' : World => w'.cell? ⟨g, j, none⟩ = some (.int .u8 (mB 1 k))) wr.drew := c2
        refine hl_take_np 0 (by kernel_rfl) (by kernel_rfl) rfl (by kernel_rfl) HS1 (v := ?_) ?_ ?_
        rotate_left
        · (rintro x s1; go_simp; try rfl)
        simp only [Act.put, List.setIfInBounds_toArray, List.set_cons_zero, List.set_cons_succ]
        refine hl_take_np 1 (by kernel_rfl) (by kernel_rfl) rfl (by kernel_rfl) HS1 (v := ?_) ?_ ?_
        rotate_left
        · (rintro x s1; go_simp; try rfl)
        simp only [Act.put, List.setIfInBounds_toArray, List.set_cons_zero, List.set_cons_succ]
        refine hl_take_np 2 (by kernel_rfl) (by kernel_rfl) rfl (by kernel_rfl) HS1 (v := ?_) ?_ ?_
        rotate_left
        · (rintro x s1; go_simp; try rfl)
        simp only [Act.put, List.setIfInBounds_toArray, List.set_cons_zero, List.set_cons_succ]
        refine hl_take_np 3 (by kernel_rfl) (by kernel_rfl) rfl (by kernel_rfl) HS1 (v := ?_) ?_ ?_
        rotate_left
        · (rintro x s1; go_simp; try rfl)
        simp only [Act.put, List.setIfInBounds_toArray, List.set_cons_zero, List.set_cons_succ]
        refine hl_take_np 4 (by kernel_rfl) (by kernel_rfl) rfl (by kernel_rfl) HS1 (v := ?_) ?_ ?_
        rotate_left
        · (rintro x s1; go_simp; try rfl)
        simp only [Act.put, List.setIfInBounds_toArray, List.set_cons_zero, List.set_cons_succ]
        refine hl_skip_np 5 (by kernel_rfl) (by kernel_rfl) rfl (by kernel_rfl) HS1 ?_
        simp only [Act.put, List.setIfInBounds_toArray, List.set_cons_zero, List.set_cons_succ]
        refine hl_skip_np 6 (by kernel_rfl) (by kernel_rfl) rfl (by kernel_rfl) HS1 ?_
        simp only [Act.put, List.setIfInBounds_toArray, List.set_cons_zero, List.set_cons_succ]
        refine hl_skip_np 7 (by kernel_rfl) (by kernel_rfl) rfl (by kernel_rfl) HS1 ?_
        simp only [Act.put, List.setIfInBounds_toArray, List.set_cons_zero, List.set_cons_succ]
        refine hl_skip_np 8 (by kernel_rfl) (by kernel_rfl) rfl (by kernel_rfl) HS1 ?_
        simp only [Act.put, List.setIfInBounds_toArray, List.set_cons_zero, List.set_cons_succ]
        refine hl_skip_np 9 (by kernel_rfl) (by kernel_rfl) rfl (by kernel_rfl) HS1 ?_
        simp only [Act.put, List.setIfInBounds_toArray, List.set_cons_zero, List.set_cons_succ]
        refine hl_skip_np 10 (by kernel_rfl) (by kernel_rfl) rfl (by kernel_rfl) HS1 ?_
        simp only [Act.put, List.setIfInBounds_toArray, List.set_cons_zero, List.set_cons_succ]
        refine hl_skip_np 11 (by kernel_rfl) (by kernel_rfl) rfl (by kernel_rfl) HS1 ?_
        simp only [Act.put, List.setIfInBounds_toArray, List.set_cons_zero, List.set_cons_succ]
        refine hl_skip_np 12 (by kernel_rfl) (by kernel_rfl) rfl (by kernel_rfl) HS1 ?_
        simp only [Act.put, List.setIfInBounds_toArray, List.set_cons_zero, List.set_cons_succ]
        refine hl_skip_np 13 (by kernel_rfl) (by kernel_rfl) rfl (by kernel_rfl) HS1 ?_
        simp only [Act.put, List.setIfInBounds_toArray, List.set_cons_zero, List.set_cons_succ]
        refine hl_skip_np 14 (by kernel_rfl) (by kernel_rfl) rfl (by kernel_rfl) HS1 ?_
        simp only [Act.put, List.setIfInBounds_toArray, List.set_cons_zero, List.set_cons_succ]
        refine hl_take_np 15 (by kernel_rfl) (by kernel_rfl) rfl (by kernel_rfl) HS1 (v := ?_) ?_ ?_
        rotate_left
        · (rintro x s1; go_simp; try rfl)
        simp only [Act.put, List.setIfInBounds_toArray, List.set_cons_zero, List.set_cons_succ]
        refine hl_take_np 16 (by kernel_rfl) (by kernel_rfl) rfl (by kernel_rfl) HS1 (v := ?_) ?_ ?_
        rotate_left
        · (rintro x s1; go_simp; try rfl)
        simp only [Act.put, List.setIfInBounds_toArray, List.set_cons_zero, List.set_cons_succ]
        refine hl_take_np 17 (by kernel_rfl) (by kernel_rfl) rfl (by kernel_rfl) HS1 (v := ?_) ?_ ?_
        rotate_left
        · (rintro x s1; go_simp; try rfl)
        simp only [Act.put, List.setIfInBounds_toArray, List.set_cons_zero, List.set_cons_succ]
        refine hl_take_np 18 (by kernel_rfl) (by kernel_rfl) rfl (by kernel_rfl) HS1 (v := ?_) ?_ ?_
        rotate_left
        · (rintro x s1; go_simp; try rfl)
        simp only [Act.put, List.setIfInBounds_toArray, List.set_cons_zero, List.set_cons_succ]
        refine hl_take_np 19 (by kernel_rfl) (by kernel_rfl) rfl (by kernel_rfl) HS1 (v := ?_) ?_ ?_
        rotate_left
        · (rintro x s1; go_simp; try rfl)
        simp only [Act.put, List.setIfInBounds_toArray, List.set_cons_zero, List.set_cons_succ]
        refine hl_take_np 20 (by kernel_rfl) (by kernel_rfl) rfl (by kernel_rfl) HS1 (v := ?_) ?_ ?_
        rotate_left
        · (rintro x s1; go_simp; try rfl)
        simp only [Act.put, List.setIfInBounds_toArray, List.set_cons_zero, List.set_cons_succ]
        refine hl_take_np 21 (by kernel_rfl) (by kernel_rfl) rfl (by kernel_rfl) HS1 (v := ?_) ?_ ?_
        rotate_left
        · (rintro x s1; go_simp; try rfl)
        simp only [Act.put, List.setIfInBounds_toArray, List.set_cons_zero, List.set_cons_succ]
        refine hl_take_np 22 (by kernel_rfl) (by kernel_rfl) rfl (by kernel_rfl) HS1 (v := ?_) ?_ ?_
        rotate_left
        · (rintro x s1; go_simp; try rfl)
        simp only [Act.put, List.setIfInBounds_toArray, List.set_cons_zero, List.set_cons_succ]
        refine hl_take_np 23 (by kernel_rfl) (by kernel_rfl) rfl (by kernel_rfl) HS1 (v := ?_) ?_ ?_
        rotate_left
        · (rintro x s1; go_simp; try rfl)
        simp only [Act.put, List.setIfInBounds_toArray, List.set_cons_zero, List.set_cons_succ]
        refine hl_take_np 24 (by kernel_rfl) (by kernel_rfl) rfl (by kernel_rfl) HS1 (v := ?_) ?_ ?_
        rotate_left
        · (rintro x s1; go_simp; try rfl)
        simp only [Act.put, List.setIfInBounds_toArray, List.set_cons_zero, List.set_cons_succ]
        refine hl_take_np 25 (by kernel_rfl) (by kernel_rfl) rfl (by kernel_rfl) HS1 (v := ?_) ?_ ?_
        rotate_left
        · (rintro x s1; go_simp; try rfl)
        simp only [Act.put, List.setIfInBounds_toArray, List.set_cons_zero, List.set_cons_succ]
        refine hl_take_np 26 (by kernel_rfl) (by kernel_rfl) rfl (by kernel_rfl) HS1 (v := ?_) ?_ ?_
        rotate_left
        · (rintro x s1; go_simp; try rfl)
        simp only [Act.put, List.setIfInBounds_toArray, List.set_cons_zero, List.set_cons_succ]
        refine hl_take_np 27 (by kernel_rfl) (by kernel_rfl) rfl (by kernel_rfl) HS1 (v := ?_) ?_ ?_
        rotate_left
        · (rintro x s1; go_simp; try rfl)
        simp only [Act.put, List.setIfInBounds_toArray, List.set_cons_zero, List.set_cons_succ]
        refine hl_take_np 28 (by kernel_rfl) (by kernel_rfl) rfl (by kernel_rfl) HS1 (v := ?_) ?_ ?_
        rotate_left
        · (rintro x s1; go_simp; try rfl)
        simp only [Act.put, List.setIfInBounds_toArray, List.set_cons_zero, List.set_cons_succ]
        refine hl_take_np 29 (by kernel_rfl) (by kernel_rfl) rfl (by kernel_rfl) HS1 (v := ?_) ?_ ?_
        rotate_left
        · (rintro x s1; go_simp; try rfl)
        simp only [Act.put, List.setIfInBounds_toArray, List.set_cons_zero, List.set_cons_succ]
        refine hl_stepW 30 (by kernel_rfl) rfl (by kernel_rfl) ?_
        intro K hK
        go_simp
        rw [IntWalk.i64_in _ (by omega)]
        refine (markByte_any 1 k _ (by omega) (by omega) (by omega) (by omega)).mono ?_
        rintro e w3 ⟨rfl, hw3⟩
        have hg3 : G wr.drew w3 := by rw [← hw3]; exact G.refl _
        clear hw3
        have c3 : w3.cell? ⟨g, j, none⟩ = some (.int .u8 (mB 1 k)) := hg3.cell c2
        refine hK _ _ (fun _ => c3) ?_
        clear hK
        simp only [Act.put, List.setIfInBounds_toArray, List.set_cons_zero, List.set_cons_succ]
        refine hl_take_np 31 (by kernel_rfl) (by kernel_rfl) rfl (by kernel_rfl) c3 (v := ?_) ?_ ?_
        rotate_left
        · (rintro x s1; go_simp; try rfl)
        simp only [Act.put, List.setIfInBounds_toArray, List.set_cons_zero, List.set_cons_succ]
        refine hl_take_np 32 (by kernel_rfl) (by kernel_rfl) rfl (by kernel_rfl) c3 (v := ?_) ?_ ?_
        rotate_left
        · (rintro x s1; go_simp; try rfl)
        simp only [Act.put, List.setIfInBounds_toArray, List.set_cons_zero, List.set_cons_succ]
        refine hl_take_np 33 (by kernel_rfl) (by kernel_rfl) rfl (by kernel_rfl) c3 (v := ?_) ?_ ?_
        rotate_left
        · (rintro x s1; go_simp; try rfl)
        simp only [Act.put, List.setIfInBounds_toArray, List.set_cons_zero, List.set_cons_succ]
        refine hl_take_np 34 (by kernel_rfl) (by kernel_rfl) rfl (by kernel_rfl) c3 (v := ?_) ?_ ?_
        rotate_left
        · (rintro x s1; go_simp; try rfl)
        simp only [Act.put, List.setIfInBounds_toArray, List.set_cons_zero, List.set_cons_succ]
        refine hl_done (by kernel_rfl) ?_ _
        refine NoPanic.normal ?_
        go_wp2_with fail
        go_roundw
        case rel => exact ⟨j + 1, by omega, by go_num, hg.drew.trans hg3⟩
        case measure => simp [intOf]; omega
    · go_wp2_with fail
      go_ret
      exact ⟨rfl, hg⟩
theorem take_ne_of_get {α : Type} {xs ys : List α} {k : Nat} {x y : α} (hx : xs[k]? = some x) (hy : ys[k]? = some y) (hne : x ≠ y) : xs ≠ ys := by
  rintro rfl; rw [hx] at hy; exact hne (by simpa using hy)
/-- the loop of the tests whether two lists are one -/
theorem take_step {α : Type} {xs ys : List α} {k : Nat} {x y : α} (h : xs.take k = ys.take k) (hx : xs[k]? = some x) (hy : ys[k]? = some y) (e : x = y) : xs.take (k + 1) = ys.take (k + 1) := by
  rw [List.take_add_one, List.take_add_one, h, hx, hy, e]
theorem take_all {α : Type} {xs ys : List α} {n k : Nat} (h : xs.take k = ys.take k) (hx : n = xs.length) (hy : n = ys.length) (hk : n ≤ k) : xs = ys := by
  rwa [List.take_of_length_le (by omega), List.take_of_length_le (by omega)] at h

theorem sameB_any (xs ys : List UInt8) (va vb : Value) (w : World) (ha : Rdr w 1 va xs.length (bys xs)) (hb : Rdr w 1 vb ys.length (bys ys)) (hx : xs.length ≤ 1099511627776) (hy : ys.length ≤ 1099511627776) :
    Calls Try.prog 18 #[va, vb] w fun e w' => e = .returned (.bool (decide (xs = ys))) ∧ G w w' := by
  obtain ⟨p, c, rfl, -, hpc⟩ := ha.at
  obtain ⟨q, d, rfl, -, hqd⟩ := hb.at
  by_cases hl : xs.length = ys.length
  · obtain ⟨n, hnx⟩ : ∃ n, n = xs.length := ⟨_, rfl⟩
    have hny : n = ys.length := by omega
    rw [← hnx] at hpc ha hx ⊢
    rw [← hny] at hqd hb ⊢
    have HX := Lib.hid hnx
    have HY := Lib.hid hny
    have HP := Lib.hid hpc
    have HQ := Lib.hid hqd
    clear hnx hny hpc hqd ha hb hl hy
    go_enter Try.func18, Try.ntmps18
    go_wp2_with fail
    go_loopw [5] (fun i wr => ∃ k : Nat, k ≤ n ∧ i = .int .i64 k ∧ Hid (xs.take k = ys.take k) ∧ G w wr) (fun i _ => n - (intOf i).toNat)
    case atStart => exact ⟨0, by omega, rfl, (rfl : xs.take 0 = ys.take 0), G.refl _⟩
    case round =>
      obtain ⟨k, hk, rfl, HT, hg⟩ := hrel
      by_cases hlt : k < n
      · obtain ⟨x, hx1⟩ : ∃ x, xs[k]? = some x := ⟨xs[k]'(by have := HX.out; omega), List.getElem?_eq_getElem _⟩
        obtain ⟨y, hy1⟩ : ∃ y, ys[k]? = some y := ⟨ys[k]'(by have := HY.out; omega), List.getElem?_eq_getElem _⟩
        obtain ⟨b1, o1, rfl, h1⟩ := HP.out (by omega)
        obtain ⟨b2, o2, rfl, h2⟩ := HQ.out (by omega)
        have c1 := hg.cell (h1 k _ (bys_get hx1))
        have c2 := hg.cell (h2 k _ (bys_get hy1))
        have HX1 := Lib.hid hx1
        have HY1 := Lib.hid hy1
        clear hx1 hy1 h1 h2
        by_cases hxy : x = y
        · have he : (((x.toNat : Nat) : Int) != ((y.toNat : Nat) : Int)) = false := by rw [hxy]; simp
          go_wp2_with fail
          go_quiet (fail)
          go_wp2_with fail
          go_roundw
          case rel => exact ⟨k + 1, by omega, by go_num, take_step HT.out HX1.out HY1.out hxy, hg.drewN _⟩
          case measure => simp [intOf]; omega
        · have he : (((x.toNat : Nat) : Int) != ((y.toNat : Nat) : Int)) = true := by simp only [bne_iff_ne, ne_eq]; intro e; exact hxy (UInt8.toNat_inj.1 (by omega))
          have HV := Lib.hid (show decide (xs = ys) = false by simpa using take_ne_of_get HX1.out HY1.out hxy)
          go_wp2_with fail
          go_quiet (fail)
          go_wp2_with fail
          go_ret
          exact ⟨by rw [HV.out]; rfl, hg.drewN _⟩
      · have HV := Lib.hid (show decide (xs = ys) = true by simpa using take_all HT.out HX.out HY.out (by omega))
        go_wp2_with fail
        go_ret
        exact ⟨by rw [HV.out]; rfl, hg⟩
  · have HV := Lib.hid (show decide (xs = ys) = false by simp; rintro rfl; exact hl rfl)
    have hne : ((xs.length : Int) != (ys.length : Int)) = true := by simp; omega
    clear hpc hqd ha hb
    go_enter Try.func18, Try.ntmps18
    go_wp2_with fail
    go_ret
    exact ⟨by rw [HV.out]; rfl, G.refl _⟩
end Go.Proofs.Ytfdajignnnhnmaa
