/- laid together: EdgeX EdgeY -/
import Derived.Test.YtahdodijpmkddaaEdgeQ
import Derived.Test.YtahdodijpmkddaaEdgeT
set_option maxRecDepth 10000
/- props that are lent, and kept -/
namespace Go.Proofs.Ytahdodijpmkddaa
set_option linter.unusedVariables false
set_option linter.unusedSimpArgs false
open Go.RowKit Go.Shelf
attribute [local go_sem] Oper.semAt_some

def mk (k i : Int) : Int := 1000003 * (k + 7) + i
def mprop (k i : Int) : Prp := (⟨#[109]⟩, 0, mk k i, ⟨#[]⟩)
theorem markProp_any (k i : Int) (w : World) (hk : 0 ≤ k) (hk2 : k ≤ 100) (hi : 0 ≤ i) (hi2 : i ≤ 100000000) : Calls Try.prog 52 #[.int .i64 k, .int .i64 i] w fun e w' => e = .returned (.agg #[.string ⟨#[109]⟩, .int .i64 0, .int .i64 (mk k i), .string ⟨#[]⟩]) ∧ G w w' := by
  obtain ⟨W1, hW1⟩ : ∃ X : World, X = w.alloc (.cells #[.string ⟨#[]⟩, .int .i64 0, .int .i64 0, .string ⟨#[]⟩] 86) := ⟨_, rfl⟩
  have hg1 : G w W1 := by rw [hW1]; exact (G.refl w).alloc _
  have hb1 : W1.heap[w.heap.size]? = some (.cells #[.string ⟨#[]⟩, .int .i64 0, .int .i64 0, .string ⟨#[]⟩] 86 (0, 0)) := by rw [hW1]; exact alloc_new _ _
  have HM := Lib.hid (mark_any k i W1 hk hk2 hi hi2)
  obtain ⟨x, hx⟩ : ∃ x, x = mk k i := ⟨_, rfl⟩
  rw [show 1000003 * (k + 7) + i = x from hx.symm] at HM
  rw [← hx]
  have HW1 := Lib.hid hW1
  have HB1 := Lib.hid hb1
  clear hW1 hb1 hx
  go_enter Try.func52, Try.ntmps52
  go_upto_region 1 with fail
  rw [← HW1.out]
  go_wp2_with fail
  refine HM.out.mono ?_
  rintro e w' ⟨rfl, hw⟩
  rw [← hw]
  obtain ⟨z0, z1, z2, z3⟩ := cells4 HB1.out
  have hb := HB1.out
  have y0 : W1.frozen? ⟨w.heap.size, 0, none⟩ = false := by unfold World.frozen?; rw [hb]; simp
  have y1 : W1.frozen? ⟨w.heap.size, 1, none⟩ = false := by unfold World.frozen?; rw [hb]; simp
  have y2 : W1.frozen? ⟨w.heap.size, 2, none⟩ = false := by unfold World.frozen?; rw [hb]; simp
  have y3 : W1.frozen? ⟨w.heap.size, 3, none⟩ = false := by unfold World.frozen?; rw [hb]; simp
  obtain ⟨q0, q1, q2, q3⟩ := cells4 (set4 hb (.string ⟨#[109]⟩) (.int .i64 0) (.int .i64 x) (.string ⟨#[]⟩))
  have hgF := ((((hg1.setCell (p := ⟨w.heap.size, 0, none⟩) (Nat.le_refl _) (.string ⟨#[109]⟩)).setCell (p := ⟨w.heap.size, 1, none⟩) (Nat.le_refl _) (.int .i64 0)).setCell (p := ⟨w.heap.size, 2, none⟩) (Nat.le_refl _) (.int .i64 x)).setCell (p := ⟨w.heap.size, 3, none⟩) (Nat.le_refl _) (.string ⟨#[]⟩))
  clear hb hw HM
  go_wp2_with fail
  refine bodyPost_ret (v := .agg #[.string ⟨#[109]⟩, .int .i64 0, .int .i64 x, .string ⟨#[]⟩]) ?_ rfl ⟨rfl, hgF⟩
  simp [results, Try.results52, go_sem, q0, q1, q2, q3]
def marksP (k : Int) (n : Nat) : List Prp := (List.range n).map fun i => mprop k ((i : Nat) : Int)
theorem marksP_succ (k : Int) (n : Nat) : marksP k (n + 1) = marksP k n ++ [mprop k (n : Int)] := by simp [marksP, List.range_succ]
theorem marksP_len (k : Int) (n : Nat) : (marksP k n).length = n := by simp [marksP]
theorem marksP_get (k : Int) (n i : Nat) (h : i < n) : (marksP k n)[i]? = some (mprop k (i : Int)) := by simp [marksP, h]
theorem lentP_any (ps : List Prp) (v : Value) (w : World) (hv : Rdr w 4 v ps.length (pcells ps)) (hn : ps.length ≤ 1000000) :
    Calls Try.prog 29 #[v] w fun e w' => ∃ u, e = .returned u ∧ Lent w' w.heap.size 86 4 u ps.length (pcells ps ++ pcells (marksP 1 12)) ∧ G w w' := by
  obtain ⟨j0, hjj, hy0, hy1, hy2⟩ := info_parts infoP
  obtain ⟨-, p, c, rfl, -⟩ := id hv
  obtain ⟨n, hnn⟩ : ∃ n, n = ps.length := ⟨_, rfl⟩
  rw [← hnn] at hn hv ⊢
  have HN := Lib.hid hnn
  have HV := Lib.hid hv
  have HO := Lib.hid (pcells_one ps)
  clear hnn hv
  go_enter Try.func29, Try.ntmps29
  go_wp2_with (first
    | (at_make; refine wpList_make_own w rfl _ _ _ rfl w.heap.size 86 j0 (.agg #[.string ⟨#[]⟩, .int .i64 0, .int .i64 0, .string ⟨#[]⟩]) 4 Try.underlying31 hjj hy0 hy1 .i64 .i64 _ (n + 12) rfl rfl (by omega) (by rw [hy2]; omega) (by unfold maxLen; omega) (Nat.le_refl _) ?_; intro w1 hown1 hgrow1)
    | (at_builtin; refine wpList_appendR w1 rfl _ _ 31 rfl w.heap.size 86 j0 (.agg #[.string ⟨#[]⟩, .int .i64 0, .int .i64 0, .string ⟨#[]⟩]) 4 48 Try.underlying31 hjj hy0 hy1 hy2 rfl (by decide) _ 0 [] rfl hown1 (.slice p n c) n (pcells ps) rfl (HV.out.g ((G.refl w).grown hgrow1 (fun k h => by cases h))) HO.out (by unfold maxLen; omega) (by omega) (by have := hgrow1.size; omega) ?_; intro p2 c2 w2 hown2 hgrow2 hat2))
  simp only [Nat.zero_add, List.nil_append] at hown2 ⊢
  have hg2 : G w w2 := ((G.refl w).grown hgrow1 (fun k h => by cases h)).grown hgrow2 (fun k h => (hown1.lt k h).1)
  clear hown1 hgrow1 hgrow2 hat2
  go_loopw [3, 4] (fun u i wr => ∃ (j : Nat) (p' : Option Addr) (c' : Nat), j ≤ 12 ∧ i = .int .i64 j ∧ u = .slice p' (n + j) c' ∧ wr.ownsRow w.heap.size 86 4 (.slice p' (n + j) c') (n + j) (pcells ps ++ pcells (marksP 1 j)) ∧ G w wr) (fun _ i _ => 12 - (intOf i).toNat)
  case atStart => exact ⟨0, p2, c2, by omega, rfl, rfl, by simpa [marksP, pcells] using hown2, hg2⟩
  case round =>
    clear hown2 hg2
    obtain ⟨j, p', c', hj, rfl, rfl, hown, hg⟩ := hrel
    by_cases hlt : j < 12
    · have hgs := hg.size
      have HOWN := Lib.hid hown
      clear hown
      go_wp2_with fail
      refine (markProp_any 1 j wr (by omega) (by omega) (by omega) (by omega)).mono ?_
      rintro e w3 ⟨rfl, hg3⟩
      have hgs3 := hg3.size
      go_wp2_with (at_builtin; go_loud (refine wpList_append2 _ rfl _ _ 31 rfl w.heap.size 86 j0 (.agg #[.string ⟨#[]⟩, .int .i64 0, .int .i64 0, .string ⟨#[]⟩]) 4 48 Try.underlying31 hjj hy0 hy1 hy2 rfl (by decide) (.slice p' (n + j) c') (n + j) (pcells ps ++ pcells (marksP 1 j)) rfl ((hg3.ownsRow HOWN.out).alloc _) ⟨w3.heap.size, 0, none⟩ 1 1 [.string ⟨#[109]⟩, .int .i64 0, .int .i64 (mk 1 j), .string ⟨#[]⟩] rfl rfl (World.news_of_block (cs := #[.string ⟨#[109]⟩, .int .i64 0, .int .i64 (mk 1 j), .string ⟨#[]⟩]) (t := 86) (fr := (0, 0)) (alloc_new w3 _)) (by simp [Value.oneCell']) (by unfold maxLen; omega) (by omega) (by simp; omega) ?_); intro v' w4 hown4 hgrow4 hnil4 hat4; obtain ⟨g', cap', rfl⟩ := ownsRow_succ hown4)
      go_roundw
      case rel =>
        refine ⟨j + 1, _, _, by omega, by go_num, rfl, ?_, ((hg.trans hg3).alloc (.cells #[.string ⟨#[109]⟩, .int .i64 0, .int .i64 (mk 1 j), .string ⟨#[]⟩] 86)).grown hgrow4 (fun k h => (HOWN.out.lt k h).1)⟩
        rw [marksP_succ, pcells_app, ← List.append_assoc]
        exact hown4
      case measure => simp [intOf]; omega
    · obtain rfl : j = 12 := by omega
      obtain ⟨g, cap, hp⟩ := ownsRow_addr hown (by omega)
      have hcap := ownsRow_cap hown
      simp only [Value.slice.injEq, true_and] at hp
      obtain ⟨rfl, rfl⟩ := hp
      have h0 : (0 : Int) ≤ (n : Int) := by omega
      have h1 : (n : Int) ≤ (c' : Int) := by omega
      have HOWN := Lib.hid hown
      clear hown
      go_wp2_with fail
      go_ret
      exact ⟨_, rfl, ⟨g, c', rfl, HOWN.out⟩, hg⟩
theorem eq_prop (x0 : ByteArray) (x1 x2 : Int) (x3 : ByteArray) (w : World) : (binOp BinOp.eql 86 (.agg #[.string x0, .int .i64 x1, .int .i64 x2, .string x3]) (.agg #[.string x0, .int .i64 x1, .int .i64 x2, .string x3])).run Try.prog w = .ok (.bool true) w := by
  rw [run_eql_struct]
  simp [go_sem]
set_option maxHeartbeats 2000000 in
theorem keptP_yes (ps : List Prp) (v u : Value) (base : Nat) (w : World) (hv : Lent w base 86 4 v ps.length (pcells ps ++ pcells (marksP 1 12))) (hu : Rdr w 4 u ps.length (pcells ps)) (hn : ps.length ≤ 1000000) :
    Calls Try.prog 38 #[v, u] w fun e w' => e = .returned (.bool true) ∧ G w w' := by
  have hrv := hv.rdr (pcells_len ps)
  obtain ⟨g, cap, rfl, hown⟩ := hv
  obtain ⟨-, p, c, rfl, -⟩ := id hu
  have hcap := ownsRow_cap hown
  have hall : Rdr w 4 (.slice (some ⟨g, 0, none⟩) (ps.length + 12) cap) (ps.length + 12) (pcells (ps ++ marksP 1 12)) := by
    rw [pcells_app]; exact rdr_of_owns hown
  have hmx : cap ≤ 9223372036854775807 := by
    rcases hown.2 with ⟨h, _⟩ | ⟨g', cap', cur, hv, h1, h2, h3, h4, h5, h6⟩
    · cases h
    · cases hv; unfold maxLen at h4; omega
  obtain ⟨n, hnn⟩ : ∃ n, n = ps.length := ⟨_, rfl⟩
  rw [← hnn] at hn hcap hall hu hrv ⊢
  have HN := Lib.hid hnn
  have HA := Lib.hid hall
  have HR := Lib.hid hrv
  have HU := Lib.hid hu
  clear hnn hown hall hu hrv
  go_enter Try.func38, Try.ntmps38
  go_wp2
  go_loopw [6] (fun i wr => ∃ j : Nat, j ≤ n + 12 ∧ i = .int .i64 j ∧ G w wr) (fun i _ => n + 12 - (intOf i).toNat)
  case atStart => exact ⟨0, by omega, rfl, G.refl _⟩
  case round =>
    obtain ⟨j, hj, rfl, hg⟩ := hrel
    by_cases hlt : j < n + 12
    · by_cases hlt2 : (j : Int) < (n : Int)
      · obtain ⟨x, hx⟩ : ∃ s, ps[j]? = some s := ⟨ps[j]'(by have := HN.out; omega), List.getElem?_eq_getElem _⟩
        obtain ⟨b, o, rfl, c0, c1, c2, c3⟩ := HU.out.prop hx
        obtain ⟨b', o', hb', d0, d1, d2, d3⟩ := HR.out.prop hx
        cases hb'
        clear hx
        obtain ⟨x0, x1, x2, x3⟩ := x
        simp only [Nat.zero_add] at c0 c1 c2 c3 d0 d1 d2 d3
        have c0 := hg.cell c0
        have c1 := hg.cell c1
        have c2 := hg.cell c2
        have c3 := hg.cell c3
        have d0 := hg.cell d0
        have d1 := hg.cell d1
        have d2 := hg.cell d2
        have d3 := hg.cell d3
        have hge : decide (n ≤ j) = false := by simpa using hlt2
        have he : ∀ w : World, (binOp BinOp.eql 86 (.agg #[.string x0, .int .i64 x1, .int .i64 x2, .string x3]) (.agg #[.string x0, .int .i64 x1, .int .i64 x2, .string x3])).run Try.prog w = .ok (.bool true) w := fun w => eq_prop _ _ _ _ w
        go_wp2_with fail
        go_quiet (fail)
        go_wp2_with fail
        go_roundw
        case rel => exact ⟨j + 1, by omega, by go_num, hg.drewN _⟩
        case measure => simp [intOf]; omega
      · have hdlt : decide (j < n) = false := by simpa using hlt2
        have hdge : decide (n ≤ j) = true := by simp; omega
        obtain ⟨k, hk⟩ : ∃ k : Nat, (j : Int) = n + k := ⟨j - n, by omega⟩
        have hk12 : k < 12 := by omega
        have hxk : (ps ++ marksP 1 12)[j]? = some (mprop 1 k) := by
          rw [List.getElem?_append_right (by rw [← HN.out]; omega), ← HN.out, show j - n = k by omega, marksP_get 1 12 k hk12]
        obtain ⟨b', o', hb', d0, d1, d2, d3⟩ := HA.out.prop hxk
        cases hb'
        have d0 := hg.cell d0
        have d1 := hg.cell d1
        have d2 := hg.cell d2
        have d3 := hg.cell d3
        simp only [mprop, Nat.zero_add] at d0 d1 d2 d3
        have hkw : IntKind.i64.wrap (k : Int) = k := IntWalk.i64_in _ (by omega)
        have hsub : (j : Int) - (n : Int) = (k : Int) := by omega
        have he : ∀ w : World, (binOp BinOp.eql 86 (.agg #[.string ⟨#[109]⟩, .int .i64 0, .int .i64 (mk 1 k), .string ⟨#[]⟩]) (.agg #[.string ⟨#[109]⟩, .int .i64 0, .int .i64 (mk 1 k), .string ⟨#[]⟩])).run Try.prog w = .ok (.bool true) w := fun w => eq_prop _ _ _ _ w
        clear hk hxk
        go_wp2_with fail
        obtain ⟨WD, hWD⟩ : ∃ WD : World, WD = wr.drew := ⟨_, rfl⟩
        have hsD : G wr WD := by rw [hWD]; exact (G.refl wr).drew
        refine region_hlW (fun w' => G wr w') 99 35 (by kernel_rfl) rfl ?_
        intro Q0 HQ0
        simp only [List.replicate_succ, List.replicate_zero]
        rw [← hWD]
        clear hWD
        refine hl_take_np 0 (by kernel_rfl) (by kernel_rfl) rfl (by kernel_rfl) hsD (v := ?_) ?_ ?_
        rotate_left
        · (rintro x hx; have k0 := hx.cell d0; have k1 := hx.cell d1; have k2 := hx.cell d2; have k3 := hx.cell d3; clear hx; go_simp; try rfl)
        simp only [Act.put, List.setIfInBounds_toArray, List.set_cons_zero, List.set_cons_succ]
        refine hl_take_np 1 (by kernel_rfl) (by kernel_rfl) rfl (by kernel_rfl) hsD (v := ?_) ?_ ?_
        rotate_left
        · (rintro x hx; have k0 := hx.cell d0; have k1 := hx.cell d1; have k2 := hx.cell d2; have k3 := hx.cell d3; clear hx; go_simp; try rfl)
        simp only [Act.put, List.setIfInBounds_toArray, List.set_cons_zero, List.set_cons_succ]
        refine hl_take_np 2 (by kernel_rfl) (by kernel_rfl) rfl (by kernel_rfl) hsD (v := ?_) ?_ ?_
        rotate_left
        · (rintro x hx; have k0 := hx.cell d0; have k1 := hx.cell d1; have k2 := hx.cell d2; have k3 := hx.cell d3; clear hx; go_simp; try rfl)
        simp only [Act.put, List.setIfInBounds_toArray, List.set_cons_zero, List.set_cons_succ]
        refine hl_take_np 3 (by kernel_rfl) (by kernel_rfl) rfl (by kernel_rfl) hsD (v := ?_) ?_ ?_
        rotate_left
        · (rintro x hx; have k0 := hx.cell d0; have k1 := hx.cell d1; have k2 := hx.cell d2; have k3 := hx.cell d3; clear hx; go_simp; try rfl)
        simp only [Act.put, List.setIfInBounds_toArray, List.set_cons_zero, List.set_cons_succ]
        refine hl_take_np 4 (by kernel_rfl) (by kernel_rfl) rfl (by kernel_rfl) hsD (v := ?_) ?_ ?_
        rotate_left
        · (rintro x hx; have k0 := hx.cell d0; have k1 := hx.cell d1; have k2 := hx.cell d2; have k3 := hx.cell d3; clear hx; go_simp; try rfl)
        simp only [Act.put, List.setIfInBounds_toArray, List.set_cons_zero, List.set_cons_succ]
        refine hl_skip_np 5 (by kernel_rfl) (by kernel_rfl) rfl (by kernel_rfl) hsD ?_
        simp only [Act.put, List.setIfInBounds_toArray, List.set_cons_zero, List.set_cons_succ]
        refine hl_skip_np 6 (by kernel_rfl) (by kernel_rfl) rfl (by kernel_rfl) hsD ?_
        simp only [Act.put, List.setIfInBounds_toArray, List.set_cons_zero, List.set_cons_succ]
        refine hl_skip_np 7 (by kernel_rfl) (by kernel_rfl) rfl (by kernel_rfl) hsD ?_
        simp only [Act.put, List.setIfInBounds_toArray, List.set_cons_zero, List.set_cons_succ]
        refine hl_skip_np 8 (by kernel_rfl) (by kernel_rfl) rfl (by kernel_rfl) hsD ?_
        simp only [Act.put, List.setIfInBounds_toArray, List.set_cons_zero, List.set_cons_succ]
        refine hl_skip_np 9 (by kernel_rfl) (by kernel_rfl) rfl (by kernel_rfl) hsD ?_
        simp only [Act.put, List.setIfInBounds_toArray, List.set_cons_zero, List.set_cons_succ]
        refine hl_skip_np 10 (by kernel_rfl) (by kernel_rfl) rfl (by kernel_rfl) hsD ?_
        simp only [Act.put, List.setIfInBounds_toArray, List.set_cons_zero, List.set_cons_succ]
        refine hl_skip_np 11 (by kernel_rfl) (by kernel_rfl) rfl (by kernel_rfl) hsD ?_
        simp only [Act.put, List.setIfInBounds_toArray, List.set_cons_zero, List.set_cons_succ]
        refine hl_skip_np 12 (by kernel_rfl) (by kernel_rfl) rfl (by kernel_rfl) hsD ?_
        simp only [Act.put, List.setIfInBounds_toArray, List.set_cons_zero, List.set_cons_succ]
        refine hl_skip_np 13 (by kernel_rfl) (by kernel_rfl) rfl (by kernel_rfl) hsD ?_
        simp only [Act.put, List.setIfInBounds_toArray, List.set_cons_zero, List.set_cons_succ]
        refine hl_skip_np 14 (by kernel_rfl) (by kernel_rfl) rfl (by kernel_rfl) hsD ?_
        simp only [Act.put, List.setIfInBounds_toArray, List.set_cons_zero, List.set_cons_succ]
        refine hl_take_np 15 (by kernel_rfl) (by kernel_rfl) rfl (by kernel_rfl) hsD (v := ?_) ?_ ?_
        rotate_left
        · (rintro x hx; have k0 := hx.cell d0; have k1 := hx.cell d1; have k2 := hx.cell d2; have k3 := hx.cell d3; clear hx; go_simp; try rfl)
        simp only [Act.put, List.setIfInBounds_toArray, List.set_cons_zero, List.set_cons_succ]
        refine hl_take_np 16 (by kernel_rfl) (by kernel_rfl) rfl (by kernel_rfl) hsD (v := ?_) ?_ ?_
        rotate_left
        · (rintro x hx; have k0 := hx.cell d0; have k1 := hx.cell d1; have k2 := hx.cell d2; have k3 := hx.cell d3; clear hx; go_simp; try rfl)
        simp only [Act.put, List.setIfInBounds_toArray, List.set_cons_zero, List.set_cons_succ]
        refine hl_take_np 17 (by kernel_rfl) (by kernel_rfl) rfl (by kernel_rfl) hsD (v := ?_) ?_ ?_
        rotate_left
        · (rintro x hx; have k0 := hx.cell d0; have k1 := hx.cell d1; have k2 := hx.cell d2; have k3 := hx.cell d3; clear hx; go_simp; try rfl)
        simp only [Act.put, List.setIfInBounds_toArray, List.set_cons_zero, List.set_cons_succ]
        refine hl_take_np 18 (by kernel_rfl) (by kernel_rfl) rfl (by kernel_rfl) hsD (v := ?_) ?_ ?_
        rotate_left
        · (rintro x hx; have k0 := hx.cell d0; have k1 := hx.cell d1; have k2 := hx.cell d2; have k3 := hx.cell d3; clear hx; go_simp; try rfl)
        simp only [Act.put, List.setIfInBounds_toArray, List.set_cons_zero, List.set_cons_succ]
        refine hl_take_np 19 (by kernel_rfl) (by kernel_rfl) rfl (by kernel_rfl) hsD (v := ?_) ?_ ?_
        rotate_left
        · (rintro x hx; have k0 := hx.cell d0; have k1 := hx.cell d1; have k2 := hx.cell d2; have k3 := hx.cell d3; clear hx; go_simp; try rfl)
        simp only [Act.put, List.setIfInBounds_toArray, List.set_cons_zero, List.set_cons_succ]
        refine hl_take_np 20 (by kernel_rfl) (by kernel_rfl) rfl (by kernel_rfl) hsD (v := ?_) ?_ ?_
        rotate_left
        · (rintro x hx; have k0 := hx.cell d0; have k1 := hx.cell d1; have k2 := hx.cell d2; have k3 := hx.cell d3; clear hx; go_simp; try rfl)
        simp only [Act.put, List.setIfInBounds_toArray, List.set_cons_zero, List.set_cons_succ]
        refine hl_take_np 21 (by kernel_rfl) (by kernel_rfl) rfl (by kernel_rfl) hsD (v := ?_) ?_ ?_
        rotate_left
        · (rintro x hx; have k0 := hx.cell d0; have k1 := hx.cell d1; have k2 := hx.cell d2; have k3 := hx.cell d3; clear hx; go_simp; try rfl)
        simp only [Act.put, List.setIfInBounds_toArray, List.set_cons_zero, List.set_cons_succ]
        refine hl_take_np 22 (by kernel_rfl) (by kernel_rfl) rfl (by kernel_rfl) hsD (v := ?_) ?_ ?_
        rotate_left
        · (rintro x hx; have k0 := hx.cell d0; have k1 := hx.cell d1; have k2 := hx.cell d2; have k3 := hx.cell d3; clear hx; go_simp; try rfl)
        simp only [Act.put, List.setIfInBounds_toArray, List.set_cons_zero, List.set_cons_succ]
        refine hl_take_np 23 (by kernel_rfl) (by kernel_rfl) rfl (by kernel_rfl) hsD (v := ?_) ?_ ?_
        rotate_left
        · (rintro x hx; have k0 := hx.cell d0; have k1 := hx.cell d1; have k2 := hx.cell d2; have k3 := hx.cell d3; clear hx; go_simp; try rfl)
        simp only [Act.put, List.setIfInBounds_toArray, List.set_cons_zero, List.set_cons_succ]
        refine hl_take_np 24 (by kernel_rfl) (by kernel_rfl) rfl (by kernel_rfl) hsD (v := ?_) ?_ ?_
        rotate_left
        · (rintro x hx; have k0 := hx.cell d0; have k1 := hx.cell d1; have k2 := hx.cell d2; have k3 := hx.cell d3; clear hx; go_simp; try rfl)
        simp only [Act.put, List.setIfInBounds_toArray, List.set_cons_zero, List.set_cons_succ]
        refine hl_take_np 25 (by kernel_rfl) (by kernel_rfl) rfl (by kernel_rfl) hsD (v := ?_) ?_ ?_
        rotate_left
        · (rintro x hx; have k0 := hx.cell d0; have k1 := hx.cell d1; have k2 := hx.cell d2; have k3 := hx.cell d3; clear hx; go_simp; try rfl)
        simp only [Act.put, List.setIfInBounds_toArray, List.set_cons_zero, List.set_cons_succ]
        refine hl_take_np 26 (by kernel_rfl) (by kernel_rfl) rfl (by kernel_rfl) hsD (v := ?_) ?_ ?_
        rotate_left
        · (rintro x hx; have k0 := hx.cell d0; have k1 := hx.cell d1; have k2 := hx.cell d2; have k3 := hx.cell d3; clear hx; go_simp; try rfl)
        simp only [Act.put, List.setIfInBounds_toArray, List.set_cons_zero, List.set_cons_succ]
        refine hl_take_np 27 (by kernel_rfl) (by kernel_rfl) rfl (by kernel_rfl) hsD (v := ?_) ?_ ?_
        rotate_left
        · (rintro x hx; have k0 := hx.cell d0; have k1 := hx.cell d1; have k2 := hx.cell d2; have k3 := hx.cell d3; clear hx; go_simp; try rfl)
        simp only [Act.put, List.setIfInBounds_toArray, List.set_cons_zero, List.set_cons_succ]
        refine hl_take_np 28 (by kernel_rfl) (by kernel_rfl) rfl (by kernel_rfl) hsD (v := ?_) ?_ ?_
        rotate_left
        · (rintro x hx; have k0 := hx.cell d0; have k1 := hx.cell d1; have k2 := hx.cell d2; have k3 := hx.cell d3; clear hx; go_simp; try rfl)
        simp only [Act.put, List.setIfInBounds_toArray, List.set_cons_zero, List.set_cons_succ]
        refine hl_take_np 29 (by kernel_rfl) (by kernel_rfl) rfl (by kernel_rfl) hsD (v := ?_) ?_ ?_
        rotate_left
        · (rintro x hx; have k0 := hx.cell d0; have k1 := hx.cell d1; have k2 := hx.cell d2; have k3 := hx.cell d3; clear hx; go_simp; try rfl)
        simp only [Act.put, List.setIfInBounds_toArray, List.set_cons_zero, List.set_cons_succ]
        refine hl_stepW 30 (by kernel_rfl) rfl (by kernel_rfl) ?_
        intro K hK
        go_simp
        try rw [hkw]
        refine (markProp_any 1 k WD (by omega) (by omega) (by omega) (by omega)).mono ?_
        rintro e W3 ⟨rfl, hg3⟩
        have hs3 : G wr W3 := hsD.trans hg3
        refine hK _ _ (fun _ => hs3) ?_
        clear hK K
        simp only [Act.put, List.setIfInBounds_toArray, List.set_cons_zero, List.set_cons_succ]
        refine hl_take_np 31 (by kernel_rfl) (by kernel_rfl) rfl (by kernel_rfl) hs3 (v := ?_) ?_ ?_
        rotate_left
        · (rintro x hx; clear hx; go_simp; try rfl)
        simp only [Act.put, List.setIfInBounds_toArray, List.set_cons_zero, List.set_cons_succ]
        refine hl_take_np 32 (by kernel_rfl) (by kernel_rfl) rfl (by kernel_rfl) hs3 (v := ?_) ?_ ?_
        rotate_left
        · (rintro x hx; clear hx; go_simp; try rfl)
        simp only [Act.put, List.setIfInBounds_toArray, List.set_cons_zero, List.set_cons_succ]
        refine hl_take_np 33 (by kernel_rfl) (by kernel_rfl) rfl (by kernel_rfl) hs3 (v := ?_) ?_ ?_
        rotate_left
        · (rintro x hx; clear hx; go_simp; try rfl)
        simp only [Act.put, List.setIfInBounds_toArray, List.set_cons_zero, List.set_cons_succ]
        refine hl_take_np 34 (by kernel_rfl) (by kernel_rfl) rfl (by kernel_rfl) hs3 (v := ?_) ?_ ?_
        rotate_left
        · (rintro x hx; clear hx; go_simp; try rfl)
        simp only [Act.put, List.setIfInBounds_toArray, List.set_cons_zero, List.set_cons_succ]
        refine hl_done (by kernel_rfl) ?_ _
        refine NoPanic.normal (HQ0.out _ _ ?_)
        clear HQ0
        go_wp2_with fail
        go_roundw
        case rel => exact ⟨j + 1, by omega, by go_num, hg.trans hs3⟩
        case measure => simp [intOf]; omega
    · obtain rfl : j = n + 12 := by omega
      go_wp2_with fail
      go_ret
      exact ⟨rfl, hg⟩
end Go.Proofs.Ytahdodijpmkddaa

/- edges that are lent, and kept -/
namespace Go.Proofs.Ytahdodijpmkddaa
set_option linter.unusedVariables false
set_option linter.unusedSimpArgs false
open Go.RowKit Go.Shelf
attribute [local go_sem] Oper.semAt_some

/-- an edge with its props in another slice -/
def lentE (E : Edg) (u : Value) : Edg := ⟨E.f, E.t, E.l, E.tm, u, E.ps⟩
/-- u is lent of the props of E -/
def LentP (W : World) (base : Nat) (u : Value) (E : Edg) : Prop := Lent W base 86 4 u E.ps.length (pcells E.ps ++ pcells (marksP 1 12))
theorem LentP.fr {S : Nat → Prop} {W W' : World} {base : Nat} {u : Value} {E : Edg} (h : LentP W base u E) (hf : Fr S W W') (hs : ∀ g, u.ownBlock = some g → ¬ S g) : LentP W' base u E := Lent.fr h hf hs
theorem LentP.g {W W' : World} {base : Nat} {u : Value} {E : Edg} (h : LentP W base u E) (hg : G W W') : LentP W' base u E := Lent.fr h (hg.fr (fun _ => False)) (fun _ _ h => h)
theorem LentP.at {W : World} {base : Nat} {u : Value} {E : Edg} (h : LentP W base u E) (hE : EdgAt W E) : EdgAt W (lentE E u) :=
  ⟨Lent.rdr h (pcells_len _), hE.n, hE.ps, hE.f, hE.t, hE.l⟩
theorem LentP.slice {W : World} {base : Nat} {u : Value} {E : Edg} (h : LentP W base u E) : ∃ p c, u = .slice p E.ps.length c := by
  obtain ⟨g, c, h, -⟩ := h; exact ⟨_, _, h⟩
theorem out_lent (E : Edg) (u : Value) : outE (lentE E u) = outE E := rfl
set_option maxHeartbeats 1000000 in
theorem lentE_any (E : Edg) (w : World) (hE : EdgAt w E) (hn : E.ps.length ≤ 1000000) : Calls Try.prog 13 #[ev E] w fun e w' => ∃ u, e = .returned (ev (lentE E u)) ∧ LentP w' (w.heap.size + 2) u E ∧ G w w' := by
  obtain ⟨f, t, l, tm, v, ps⟩ := E
  obtain ⟨-, vp, vc, hvv, -⟩ := id hE.rdr
  simp only at hvv hn
  have hR := hE.rdr
  simp only at hR
  subst hvv
  obtain ⟨n, hnn⟩ : ∃ n, n = ps.length := ⟨_, rfl⟩
  unfold ev lentE LentP
  simp only
  obtain ⟨W1, hW1⟩ : ∃ X : World, X = (w.alloc (.cells #[.string f, .string t, .string l, .int .i64 tm, .slice vp n vc] 33)).alloc (.cells #[.string ⟨#[]⟩, .string ⟨#[]⟩, .string ⟨#[]⟩, .int .i64 0, .slice none 0 0] 33) := ⟨_, rfl⟩
  have hbx := boxes w #[.string f, .string t, .string l, .int .i64 tm, .slice vp n vc] #[.string ⟨#[]⟩, .string ⟨#[]⟩, .string ⟨#[]⟩, .int .i64 0, .slice none 0 0] 33
  rw [← hW1] at hbx
  obtain ⟨hg1, hbA, hbB⟩ := hbx
  have hz1 : W1.heap.size = w.heap.size + 2 := by rw [hW1]; simp
  have HL := Lib.hid (lentP_any ps _ W1 (hR.g hg1) hn)
  rw [hz1, ← hnn] at HL
  rw [← hnn]
  have HW1 := Lib.hid hW1
  have HA := Lib.hid hbA
  have HB := Lib.hid hbB
  have HG1 := Lib.hid hg1
  have HZ1 := Lib.hid hz1
  obtain ⟨-, -, -, -, a4⟩ := cells5 hbA
  clear hE hn hR hnn hW1 hbA hbB hg1 hz1
  go_enter Try.func13, Try.ntmps13
  go_upto_region 1 with fail
  rw [← HW1.out]
  go_wp2_with fail
  refine HL.out.mono ?_
  rintro e w2 ⟨u, rfl, hl, hg2⟩
  obtain ⟨g, cap, hu, -⟩ := id hl
  subst hu
  have HLT := Lib.hid (Lent.lt hl g rfl)
  have hA2 := (hg2.block (heap_lt HA.out)).trans HA.out
  have hB2 := (hg2.block (heap_lt HB.out)).trans HB.out
  have HL2 := Lib.hid hl
  have HG2 := Lib.hid (HG1.out.trans hg2)
  obtain ⟨a0, a1, a2, a3, a4⟩ := cells5 hA2
  have y4 : w2.frozen? ⟨w.heap.size, 4, none⟩ = false := by unfold World.frozen?; rw [hA2]; simp
  clear hl hg2 HL
  go_upto_region 2 with fail
  obtain ⟨w3, hw3⟩ : ∃ X : World, X = w2.setCell ⟨w.heap.size, 4, none⟩ (.slice (some ⟨g, 0, none⟩) n cap) := ⟨_, rfl⟩
  rw [← hw3]
  have hA3 : w3.heap[w.heap.size]? = some (.cells #[.string f, .string t, .string l, .int .i64 tm, .slice (some ⟨g, 0, none⟩) n cap] 33 (0, 0)) := by rw [hw3]; exact heap_setCell_at _ _ 4 _ _ _ _ hA2
  have fA : Fr (fun q => q = w.heap.size) w2 w3 := by rw [hw3]; exact (Fr.refl (fun q => q = w.heap.size) w2).setCell (p := ⟨w.heap.size, 4, none⟩) (.inl rfl) _
  have hB3 := (fA.block _ (heap_lt hB2) (by omega)).trans hB2
  have hg3 : G w w3 := g_of_fr HG2.out fA (fun q e => by omega)
  have HL3 := Lib.hid (Lent.fr HL2.out fA (fun g' hg e => by have h9 := HLT.out; obtain rfl : g = g' := (by simpa [Value.ownBlock] using hg); omega))
  clear hA2 hB2 hw3 a0 a1 a2 a3 a4 y4 HL2 HG2
  obtain ⟨a0, a1, a2, a3, a4⟩ := cells5 hA3
  obtain ⟨b0, b1, b2, b3, b4⟩ := cells5 hB3
  have y0 : w3.frozen? ⟨w.heap.size + 1, 0, none⟩ = false := by unfold World.frozen?; rw [hB3]; simp
  have y1 : w3.frozen? ⟨w.heap.size + 1, 1, none⟩ = false := by unfold World.frozen?; rw [hB3]; simp
  have y2 : w3.frozen? ⟨w.heap.size + 1, 2, none⟩ = false := by unfold World.frozen?; rw [hB3]; simp
  have y3 : w3.frozen? ⟨w.heap.size + 1, 3, none⟩ = false := by unfold World.frozen?; rw [hB3]; simp
  have y4 : w3.frozen? ⟨w.heap.size + 1, 4, none⟩ = false := by unfold World.frozen?; rw [hB3]; simp
  obtain ⟨hgF, hrF⟩ := set5 hg3 (show w.heap.size ≤ w.heap.size + 1 by omega) hB3 (.string f) (.string t) (.string l) (.int .i64 tm) (.slice (some ⟨g, 0, none⟩) n cap)
  obtain ⟨q0, q1, q2, q3, q4⟩ := cells5 hrF
  have hlF := Lent.fr HL3.out ((((((Fr.refl (fun q => q = w.heap.size + 1) w3).setCell (p := ⟨w.heap.size + 1, 0, none⟩) (.inl rfl) (.string f)).setCell (p := ⟨w.heap.size + 1, 1, none⟩) (.inl rfl) (.string t)).setCell (p := ⟨w.heap.size + 1, 2, none⟩) (.inl rfl) (.string l)).setCell (p := ⟨w.heap.size + 1, 3, none⟩) (.inl rfl) (.int .i64 tm)).setCell (p := ⟨w.heap.size + 1, 4, none⟩) (.inl rfl) (.slice (some ⟨g, 0, none⟩) n cap)) (fun g' hg e => by have h9 := HLT.out; obtain rfl : g = g' := (by simpa [Value.ownBlock] using hg); omega)
  have HLF := Lib.hid hlF
  clear hA3 hB3 fA hrF hlF HL3
  go_wp2_with fail
  refine bodyPost_ret (v := .agg #[.string f, .string t, .string l, .int .i64 tm, .slice (some ⟨g, 0, none⟩) n cap]) ?_ rfl ⟨_, rfl, HLF.out, hgF⟩
  simp [results, Try.results13, go_sem, q0, q1, q2, q3, q4]
theorem keptE_yes (E : Edg) (u : Value) (base : Nat) (w : World) (hE : EdgAt w E) (hn : E.ps.length ≤ 1000000) (hl : LentP w base u E) : Calls Try.prog 16 #[ev (lentE E u), ev E] w fun e w' => e = .returned (.bool true) ∧ G w w' := by
  have hat := hl.at hE
  obtain ⟨f, t, l, tm, v, ps⟩ := E
  obtain ⟨-, vp, vc, hvv, -⟩ := id hE.rdr
  obtain ⟨up, uc, huu⟩ := hl.slice
  simp only at hvv hn huu
  have hR := hE.rdr
  simp only at hR
  subst hvv huu
  obtain ⟨n, hnn⟩ : ∃ n, n = ps.length := ⟨_, rfl⟩
  obtain ⟨W1, hW1⟩ : ∃ X : World, X = (w.alloc (.cells #[.string f, .string t, .string l, .int .i64 tm, .slice up n uc] 33)).alloc (.cells #[.string f, .string t, .string l, .int .i64 tm, .slice vp n vc] 33) := ⟨_, rfl⟩
  have hbx := boxes w #[.string f, .string t, .string l, .int .i64 tm, .slice up n uc] #[.string f, .string t, .string l, .int .i64 tm, .slice vp n vc] 33
  rw [← hW1] at hbx
  obtain ⟨hg1, hbA, hbB⟩ := hbx
  have HS := Lib.hid (sameE_any _ _ W1 (hat.g hg1) (hE.g hg1))
  have hsame : sameE (lentE ⟨f, t, l, tm, .slice vp ps.length vc, ps⟩ (.slice up ps.length uc)) ⟨f, t, l, tm, .slice vp ps.length vc, ps⟩ = true := same_of_out rfl
  rw [hsame] at HS
  have HK := Lib.hid (fun W (hW : G W1 W) => keptP_yes ps (.slice up ps.length uc) (.slice vp ps.length vc) base W (Lent.g (LentP.g hl hg1) hW) ((hR.g hg1).g hW) hn)
  unfold ev lentE at HS ⊢
  simp only at HS ⊢
  rw [← hnn] at HS HK ⊢
  have HW1 := Lib.hid hW1
  obtain ⟨a0, a1, a2, a3, a4⟩ := cells5 hbA
  obtain ⟨b0, b1, b2, b3, b4⟩ := cells5 hbB
  have HG1 := Lib.hid hg1
  clear hE hn hR hnn hW1 hbA hbB hg1 hsame hat hl
  go_enter Try.func16, Try.ntmps16
  go_upto_region 1 with fail
  rw [← HW1.out]
  go_wp2_with fail
  refine HS.out.mono ?_
  rintro e w2 ⟨rfl, hg2⟩
  have a4 := hg2.cell a4
  have b4 := hg2.cell b4
  clear a0 a1 a2 a3 b0 b1 b2 b3 HS
  go_wp2_with fail
  refine (HK.out w2 hg2).mono ?_
  rintro e w3 ⟨rfl, hg3⟩
  go_wp2_with fail
  go_ret
  exact ⟨rfl, (HG1.out.trans hg2).trans hg3⟩
end Go.Proofs.Ytahdodijpmkddaa
