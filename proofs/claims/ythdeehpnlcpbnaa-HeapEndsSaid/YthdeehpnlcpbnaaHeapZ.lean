/- the closed law: all small rows, keys about the ends, no heap -/
import Derived.Test.YthdeehpnlcpbnaaHeapY
import Derived.Test.YthdeehpnlcpbnaaHeapU
import Derived.Test.YthdeehpnlcpbnaaHeapW
namespace Go.Proofs.Ythdeehpnlcpbnaa
set_option linter.unusedVariables false
set_option linter.unusedSimpArgs false
open Go.RowKit Go.Shelf
attribute [local go_sem] Oper.semAt_some

/-- a deed without items -/
def dd (a b c : Int) : Dd := ⟨a, b, c, .slice none 0 0, []⟩
theorem dcells_app : ∀ l m : List Dd, dcells (l ++ m) = dcells l ++ dcells m
  | [], m => rfl
  | x :: l, m => by simp only [dcells, List.cons_append, dcells_app l m]
theorem dcells_len : ∀ l : List Dd, (dcells l).length = l.length * 4
  | [] => rfl
  | x :: l => by simp only [dcells, List.length_cons, dcells_len l]; omega
theorem dcells_one : ∀ l : List Dd, (∀ d ∈ l, d.v.oneCell' = true) → ∀ u ∈ dcells l, u.oneCell' = true
  | [], _, u, h => by simp [dcells] at h
  | x :: l, hv, u, h => by
    simp only [dcells, List.mem_cons] at h
    rcases h with rfl | rfl | rfl | rfl | h
    · rfl
    · rfl
    · rfl
    · exact hv _ (by simp)
    · exact dcells_one l (fun d hd => hv d (by simp [hd])) u h
theorem rdrD_of {W : World} {v : Value} {ds : List Dd} (h : Rdr W 4 v ds.length (dcells ds)) (hd : ∀ d ∈ ds, ∃ a b c, d = dd a b c) : RdrD W v ds :=
  ⟨h, fun d hm => by obtain ⟨a, b, c, rfl⟩ := hd d hm; exact Rdr.nil _ _ _ _⟩
theorem infoD : (Try.prog.info? 34).map (fun i => (i.zero, i.size, i.bytes)) = some (some (.agg #[.int .i64 0, .int .i64 0, .int .i64 0, .slice none 0 0]), 4, 48) := by kernel_rfl
theorem owns_cap {W : World} {base : Nat} {e : TypeId} {size n c : Nat} {p : Option Addr} {xs : List Value} (h : W.ownsRow base e size (.slice p n c) n xs) : n ≤ c := by
  rcases h.2 with ⟨hv, -⟩ | ⟨g, cap, cur, hv, -, -, hle, -⟩
  · cases hv; omega
  · cases hv; exact hle
/-- append behind a guard that is met -/
theorem wpList_appendG {P : Program} (w : World) {ops : Array Oper} {rest : List Oper} {o : Oper} {a : Act} {Q : Exit → Act → World → Prop}
    (hg : Region.wanted o (yielded ops a.tmps) = true) (s x : Operand) (t : TypeId) (hop : o.op = Op.call { callee := Callee.builtin Builtin.append, args := #[s, x], argTypes := #[t, t] })
    (base : Nat) (e : TypeId) (i : TypeInfo) (z : Value) (size bytes : Nat) (h1 : P.underlying t = some (.slice e)) (h2 : P.info? e = some i) (h3 : i.zero = some z) (h4 : i.size = size) (h5 : i.bytes = bytes) (h6 : z.cells.size = size) (h7 : 0 < size)
    (v : Value) (k : Nat) (xs : List Value) (hs : a.eval s = v) (hown : w.ownsRow base e size v k xs) (u : Value) (m : Nat) (news : List Value) (hx : a.eval x = u) (hr : Rdr w size u m news)
    (h1c : ∀ u ∈ news, u.oneCell' = true) (b1 : k + m ≤ maxLen) (b2 : (k + m) * bytes ≤ 140737488355328) (b3 : base ≤ w.heap.size)
    (hK : ∀ p' c' w', w'.ownsRow base e size (.slice p' (k + m) c') (k + m) (xs ++ news) → w.grownBy w' v.ownBlock → (∀ g, (Value.slice p' (k + m) c').ownBlock = some g → v.ownBlock = some g ∨ w.heap.size ≤ g) → wpList P ops Q rest (a.put o.dst (.slice p' (k + m) c')) w') :
    wpList P ops Q (o :: rest) a w := by
  refine wpList_step fun K hK' => ?_
  rw [if_pos hg]
  obtain ⟨v', w', hrun, r1, r2, r4⟩ := run_appendR (P := P) w base t o.type e i z size bytes h1 h2 h3 h4 h5 h6 h7 v k xs hown u m news hr h1c b1 b2 b3
  obtain ⟨p', c', rfl⟩ := ownsRow_shape r1
  unfold Oper.wp execOp
  simp only [hop, resolve, invoke, builtin, Sem.run_bind, Sem.run_pure, Result.andThen_ok, List.map_toArray, List.map_cons, List.map_nil, hs, hx, hrun]
  exact hK' _ _ (hK p' c' w' r1 r2 r4)
theorem opR_of {P : Program} {ops : Array Oper} {Q : Exit → Act → World → Prop} {K : Act → World → Prop} {i : Nat} {oi : Oper} {a : Act} {w : World} (hi : ops[i]? = some oi) (h : wpList P ops (hlK K Q) [oi] a w) : opR P ops Q i K a w := by
  unfold opR
  simp only [hi]
  simp only [wpList] at h
  split <;> rename_i hw
  · rw [if_pos hw] at h
    rcases h with h | ⟨-, h⟩
    · refine wp_leave (Q := hlK K Q) (fun _ _ _ h => h) (fun h => ?_) (wp_mono_op (fun _ _ h => h) h)
      simp [LetsOut, hlK] at h
    · simp [LetsOut, hlK] at h
  · rw [if_neg hw] at h; exact h
/-- two that may come up, either one ahead -/
theorem hl_two {P : Program} {md : Region.Mode} {os : List Oper} {Q : Exit → Act → World → Prop} {S : World → Prop} {t : Nat} (i j : Nat) {oi oj : Oper} {fuel : Nat} {listed : Array Bool} {a : Act} {w : World}
    (hr : Region.ready md os.toArray listed = [i, j]) (hi : nth os i = some oi) (hj : nth os j = some oj)
    (h1 : wpList P os.toArray (hlK (fun a' w' => (i ≠ t → S w') ∧ hl P md os.toArray Q S t fuel (listed.setIfInBounds i true) a' w') Q) [oi] a w)
    (h2 : wpList P os.toArray (hlK (fun a' w' => (j ≠ t → S w') ∧ hl P md os.toArray Q S t fuel (listed.setIfInBounds j true) a' w') Q) [oj] a w) : hl P md os.toArray Q S t (fuel + 1) listed a w := by
  refine ⟨(fun h0 => by rw [hr] at h0; cases h0), fun k hk => ?_⟩
  rw [hr] at hk
  simp only [List.mem_cons, List.not_mem_nil, or_false] at hk
  rcases hk with rfl | rfl
  · exact opR_of (nth_at hi) h1
  · exact opR_of (nth_at hj) h2
/-- numbers that are not below none -/
theorem down3 {k : Int} (h : 0 < k) : 0 ≤ (k - 1) / 3 ∧ (k - 1) / 3 < k ∧ 0 ≤ (k - 1) % 3 ∧ (k - 1) % 3 < 3 := by omega

set_option maxHeartbeats 8000000 in
set_option maxRecDepth 10000 in
theorem ends_any (w : World) : Calls Try.prog 4 #[] w fun e w' => e = .returned (.bool true) ∧ G w w' := by
  obtain ⟨i0, hi, hz0, hz1, hz2⟩ := info_parts infoI
  obtain ⟨j0, hj, hy0, hy1, hy2⟩ := info_parts infoD
  go_enter Try.func4, Try.ntmps4
  go_wp2_with fail
  go_loopw [1] (fun i wr => ∃ (n : Nat), n ≤ 364 ∧ i = .int .i64 n ∧ G w wr) (fun i _ => 364 - (intOf i).toNat)
  case atStart => exact ⟨0, by omega, rfl, G.refl w⟩
  case round =>
    obtain ⟨n, hn, rfl, hg⟩ := hrel
    obtain ⟨WA, rfl⟩ : ∃ WA : World, WA = wr := ⟨_, rfl⟩
    by_cases hlt : n < 364
    · have hnI : (n : Int) < 364 := by omega
      have hn0 : (0 : Int) ≤ (n : Int) := by omega
      go_wp2_with fail
      go_loopw [2, 3] (fun l k wr => ∃ (k0 : Int) (xs : List Item) , 0 ≤ k0 ∧ k0 + xs.length ≤ 400 ∧ k = .int .i64 k0 ∧ wr.ownsRow WA.heap.size 40 2 l xs.length (icells xs) ∧ (∀ x ∈ xs, x.1 ≤ 10) ∧ G WA wr) (fun _ k _ => (intOf k).toNat)
      case atStart => exact ⟨n, [], by omega, by simp; omega, rfl, World.ownsRow_nil _ _ _ _, by simp, G.refl _⟩
      case round =>
        obtain ⟨k, xs, hk0, hkx, rfl, hown, hxs, hgA⟩ := hrel
        obtain ⟨op, oc, rfl⟩ := ownsRow_shape hown
        obtain ⟨m, hm⟩ : ∃ m, m = xs.length := ⟨_, rfl⟩
        have HM := Lib.hid hm
        by_cases hk : 0 < k
        · obtain ⟨d0, d1, d2, d3⟩ := down3 hk
          have hk9 : k ≤ 400 := by omega
          have hm9 : m ≤ 400 := by omega
          have e0 : (0 : Int) ≤ (m : Int) % 2 := by omega
          have e1 : (m : Int) % 2 < 2 := by omega
          rw [← hm] at hown hkx ⊢
          have HOWN := Lib.hid hown
          have HXS := Lib.hid hxs
          clear hown hm hxs
          go_wp2_with (at_builtin; refine wpList_appendR _ rfl _ _ 22 rfl WA.heap.size 40 i0 (.agg #[.int .i64 0, .int .i64 0]) 2 16 Try.underlying22 hi hz0 hz1 hz2 rfl (by decide) (.slice op m oc) m (icells xs) rfl (HOWN.out.alloc _) (.slice (some ⟨wr.heap.size, 0, none⟩) 1 1) 1 (icells [((k - 1) % 3, (m : Int) % 2)]) rfl (rdr_one wr [_, _] _ _ 2 rfl) (by simp [icells, Value.oneCell']) (by unfold maxLen; omega) (by omega) (by have := hgA.size; simp; omega) ?_; intro mp mc w1 hown1 hgrow1 hat1)
          have hgw1 : G WA w1 := (hgA.alloc _).grown hgrow1 (fun q h => (HOWN.out.lt q h).1)
          go_roundw
          case rel =>
            refine ⟨_, xs ++ [((k - 1) % 3, (m : Int) % 2)], d0, ?_, rfl, ?_, ?_, hgw1⟩
            · rw [List.length_append, ← HM.out, List.length_singleton]; omega
            · rw [List.length_append, ← HM.out, List.length_singleton, icells_app]; exact hown1
            · intro x hx
              rcases List.mem_append.1 hx with hx | hx
              · exact HXS.out x hx
              · obtain rfl := List.mem_singleton.1 hx
                show (k - 1) % 3 ≤ 10
                omega
          case measure => simp [intOf]; omega
        · obtain rfl : k = 0 := by omega
          have hm9 : m ≤ 400 := by omega
          rw [← hm] at hown hkx ⊢
          obtain ⟨WB, rfl⟩ : ∃ WB : World, WB = wr := ⟨_, rfl⟩
          have HOWN := Lib.hid hown
          have HXS := Lib.hid hxs
          clear hown hm hxs
          go_wp2_with fail
          go_loopw [4, 5] (fun l k wr => ∃ (i : Nat) (ds : List Dd), i ≤ m ∧ ds.length = i ∧ k = .int .i64 i ∧ wr.ownsRow WB.heap.size 34 4 l i (dcells ds) ∧ (∀ d ∈ ds, Rdr WB 2 d.v d.xs.length (icells d.xs) ∧ d.xs.length ≤ 1 ∧ (∀ x ∈ d.xs, x.1 ≤ 10) ∧ d.v.oneCell' = true) ∧ G WB wr) (fun _ k _ => m - (intOf k).toNat)
          case atStart => exact ⟨0, [], by omega, rfl, rfl, World.ownsRow_nil _ _ _ _, by simp, G.refl _⟩
          case round =>
            obtain ⟨i, ds, him, hdl, rfl, hown, hds, hgB⟩ := hrel
            obtain ⟨dp, dc, rfl⟩ := ownsRow_shape hown
            by_cases hi9 : i < m
            · have hiI : (i : Int) < (m : Int) := by omega
              have hi0 : (0 : Int) ≤ (i : Int) := by omega
              have HDS := Lib.hid hds
              have HDO := Lib.hid hown
              have HDL := Lib.hid hdl
              obtain ⟨b, o, rfl, hcell⟩ := (rdr_of_owns HOWN.out).one (by omega)
              have hmc : m ≤ oc := owns_cap HOWN.out
              have hmcI : (i : Int) + 1 ≤ (oc : Int) := by omega
              have hmcN : i + 1 ≤ oc := by omega
              have HCELL := Lib.hid hcell
              obtain ⟨x, hx⟩ : ∃ x, xs[i]? = some x := ⟨xs[i]'(by have := HM.out; omega), List.getElem?_eq_getElem _⟩
              obtain ⟨q0, q1⟩ := icells_get hx
              have hrx : Rdr WB 2 (.slice (some ⟨b, o + i * 2, none⟩) 1 (oc - i)) 1 (icells [x]) := ⟨rfl, _, _, rfl, fun _ => ⟨_, _, rfl, fun j u hu => by
                rcases j with _ | _ | j
                · simp [icells] at hu; subst hu; exact hcell _ _ q0
                · simp [icells] at hu; subst hu; exact hcell _ _ q1
                · simp [icells] at hu⟩⟩
              have hxk : x.1 ≤ 10 := HXS.out x (List.mem_of_getElem? hx)
              have HRX := Lib.hid hrx
              clear hown hds hdl hcell q0 q1 hrx hx
              go_wp2_with (at_builtin; refine wpList_appendR _ rfl _ _ 23 rfl WB.heap.size 34 j0 (.agg #[.int .i64 0, .int .i64 0, .int .i64 0, .slice none 0 0]) 4 48 Try.underlying23 hj hy0 hy1 hy2 rfl (by decide) (.slice dp i dc) i (dcells ds) rfl (HDO.out.alloc _) (.slice (some ⟨wr.heap.size, 0, none⟩) 1 1) 1 (dcells [⟨0, 0, 0, .slice (some ⟨b, o + i * 2, none⟩) 1 (oc - i), [x]⟩]) rfl (rdr_one wr [_, _, _, _] _ _ 4 rfl) (by simp [dcells, Value.oneCell']) (by unfold maxLen; omega) (by omega) (by have := hgB.size; simp; omega) ?_; intro mp mc w1 hown1 hgrow1 hat1)
              have hgw1 : G WB w1 := (hgB.alloc _).grown hgrow1 (fun q h => (HDO.out.lt q h).1)
              go_roundw
              case rel =>
                refine ⟨i + 1, ds ++ [⟨0, 0, 0, .slice (some ⟨b, o + i * 2, none⟩) 1 (oc - i), [x]⟩], by omega, by rw [List.length_append, HDL.out]; rfl, by go_num, by rw [dcells_app]; exact hown1, ?_, hgw1⟩
                intro d hd
                rcases List.mem_append.1 hd with hd | hd
                · exact HDS.out d hd
                · obtain rfl := List.mem_singleton.1 hd
                  exact ⟨HRX.out, by simp, by simpa using hxk, rfl⟩
              case measure => simp [intOf]; omega
            · obtain rfl : i = m := by omega
              have hgWA : G w wr := hg.trans (hgA.trans hgB)
              have hlD1 : ∀ d ∈ [dd 1 0 0, dd 1 0 0, dd 2 1 n, dd 3 0 0, dd 1 0 0, dd 1 0 0], d.xs.length ≤ 8796093022208 := by simp [dd]
              have hD1 := Lib.hid (does_any xs [dd 1 0 0, dd 1 0 0, dd 2 1 n, dd 3 0 0, dd 1 0 0, dd 1 0 0] (.slice op i oc) (.slice (some ⟨wr.heap.size, 0, none⟩) 6 6)
                (wr.alloc (.cells (dcells [dd 1 0 0, dd 1 0 0, dd 2 1 n, dd 3 0 0, dd 1 0 0, dd 1 0 0]).toArray 34 (0, 0)))
                (by rw [← HM.out]; exact ((rdr_of_owns HOWN.out).g hgB).alloc _) (rdrD_of (rdr_alloc wr _ _ _ 4 6 6 (by rw [dcells_len]; rfl)) (by
                  intro d hd; simp only [List.mem_cons, List.not_mem_nil, or_false] at hd; rcases hd with rfl | rfl | rfl | rfl | rfl | rfl <;> exact ⟨_, _, _, rfl⟩))
                (by have := HM.out; omega) hlD1 (by simp) (fun x hx => by have := HXS.out x hx; omega) (by simp [dd]))
              simp only [dcells, dd] at hD1
              have HDS := Lib.hid hds
              have HDO := Lib.hid hown
              have HDL := Lib.hid hdl
              clear hown hds hdl hlD1
              go_wp2_with fail
              refine hD1.out.mono ?_
              rintro e w2 ⟨rfl, hg2⟩
              have hgW2 : G wr w2 := ((G.refl wr).alloc _).trans hg2
              have HG2 := Lib.hid hgW2
              have hqI : (0 : Int) ≤ (n : Int) % 4 := by omega
              have hqI2 : (n : Int) % 4 < 4 := by omega
              clear hD1 hg2
              go_wp2_with (at_builtin; refine wpList_appendG _ (by rfl) _ _ 23 rfl WB.heap.size 34 j0 (.agg #[.int .i64 0, .int .i64 0, .int .i64 0, .slice none 0 0]) 4 48 Try.underlying23 hj hy0 hy1 hy2 rfl (by decide) (.slice dp i dc) i (dcells ds) rfl ((HG2.out.ownsRow HDO.out).alloc _) (.slice (some ⟨w2.heap.size, 0, none⟩) 3 3) 3 (dcells [dd 3 0 0, dd 2 ((n : Int) % 4 - 1) 3, dd 1 0 0]) rfl (rdr_alloc w2 _ _ _ 4 3 3 rfl) (by simp [dcells, dd, Value.oneCell']) (by unfold maxLen; omega) (by omega) (by have := hgB.size; have := HG2.out.size; simp; omega) ?_; intro mp mc w3 hown3 hgrow3 hat3)
              have hgW3 : G WB w3 := ((hgB.trans hgW2).alloc _).grown hgrow3 (fun q h => (HDO.out.lt q h).1)
              rw [← dcells_app] at hown3
              have hln : (ds ++ [dd 3 0 0, dd 2 ((n : Int) % 4 - 1) 3, dd 1 0 0]).length = i + 3 := by rw [List.length_append, HDL.out]; rfl
              have hD2 := Lib.hid (does_any [] (ds ++ [dd 3 0 0, dd 2 ((n : Int) % 4 - 1) 3, dd 1 0 0]) (.slice none 0 0) (.slice mp (i + 3) mc) w3 (Rdr.nil _ _ _ _)
                ⟨by rw [hln]; exact rdr_of_owns hown3, fun d hd => by
                  rcases List.mem_append.1 hd with hd | hd
                  · exact (HDS.out d hd).1.g hgW3
                  · simp only [List.mem_cons, List.not_mem_nil, or_false] at hd; rcases hd with rfl | rfl | rfl <;> exact Rdr.nil _ _ _ _⟩
                (by simp) (fun d hd => by
                  rcases List.mem_append.1 hd with hd | hd
                  · have := (HDS.out d hd).2.1; omega
                  · simp only [List.mem_cons, List.not_mem_nil, or_false] at hd; rcases hd with rfl | rfl | rfl <;> simp [dd]) (by rw [hln]; omega) (by simp) (fun d hd => by
                  rcases List.mem_append.1 hd with hd | hd
                  · intro x hx; have := (HDS.out d hd).2.2.1 x hx; omega
                  · simp only [List.mem_cons, List.not_mem_nil, or_false] at hd; rcases hd with rfl | rfl | rfl <;> simp [dd]))
              clear hown3 hgrow3 hat3 hln
              go_wp2_with fail
              refine hD2.out.mono ?_
              rintro e w4 ⟨rfl, hg4⟩
              have hgW4 : G w w4 := (hg.trans (hgA.trans hgW3)).trans hg4
              clear hD2
              go_wp2_with fail
              go_roundw
              case rel => exact ⟨n + 1, by omega, by go_num, hgW4⟩
              case measure => simp [intOf]; omega
    · have hnI : ¬ (n : Int) < 364 := by omega
      go_wp2_with fail
      obtain ⟨WC, hWC⟩ : ∃ WC : World, WC = WA.alloc (.cells #[.int .i64 (-9223372036854775808), .int .i64 (-1), .int .i64 0, .int .i64 1, .int .i64 9223372036854775807] 3) := ⟨_, rfl⟩
      have hgC : G w WC := by rw [hWC]; exact hg.alloc _
      have hcells : ∀ j, j < 5 → ∃ a : Int, a ≤ 9223372036854775807 ∧ WC.cell? ⟨WA.heap.size, j, none⟩ = some (.int .i64 a) := by
        intro j hj
        rw [hWC]
        have hc := cell_alloc_at WA [.int .i64 (-9223372036854775808), .int .i64 (-1), .int .i64 0, .int .i64 1, .int .i64 9223372036854775807] 3 (0, 0) j
        rw [Nat.zero_add] at hc
        rcases (by omega : j = 0 ∨ j = 1 ∨ j = 2 ∨ j = 3 ∨ j = 4) with rfl | rfl | rfl | rfl | rfl
        · exact ⟨_, by decide, hc _ rfl⟩
        · exact ⟨_, by decide, hc _ rfl⟩
        · exact ⟨_, by decide, hc _ rfl⟩
        · exact ⟨_, by decide, hc _ rfl⟩
        · exact ⟨_, by decide, hc _ rfl⟩
      rw [← hWC]
      obtain ⟨B, hB⟩ : ∃ B, B = WA.heap.size := ⟨_, rfl⟩
      rw [← hB] at hcells ⊢
      have HCELLS := Lib.hid hcells
      clear hcells hWC hB hg
      go_loopw [7] (fun k wr => ∃ (i : Nat), i ≤ 25 ∧ k = .int .i64 i ∧ G WC wr) (fun k _ => 25 - (intOf k).toNat)
      case atStart => exact ⟨0, by omega, rfl, G.refl _⟩
      case round =>
        obtain ⟨i, hi25, rfl, hgi⟩ := hrel
        by_cases hi9 : i < 25
        · obtain ⟨qa, hqa⟩ : ∃ qa : Nat, qa = i / 5 := ⟨_, rfl⟩
          obtain ⟨ra, hra⟩ : ∃ ra : Nat, ra = i % 5 := ⟨_, rfl⟩
          obtain ⟨a, ha9, ca⟩ := HCELLS.out qa (by omega)
          obtain ⟨b, hb9, cb⟩ := HCELLS.out ra (by omega)
          have eqa : (i : Int) / 5 = (qa : Int) := by omega
          have era : (i : Int) % 5 = (ra : Int) := by omega
          have erm : (i : Int).tmod 5 = (ra : Int) := by rw [Int.tmod_eq_emod_of_nonneg (by omega)]; omega
          have qI : (qa : Int) < 5 := by omega
          have rI : (ra : Int) < 5 := by omega
          have q0 : (0 : Int) ≤ (qa : Int) := by omega
          have r0 : (0 : Int) ≤ (ra : Int) := by omega
          have wq : IntKind.i64.wrap (qa : Int) = qa := by rw [IntKind.wrap_i64]; omega
          have wr' : IntKind.i64.wrap (ra : Int) = ra := by rw [IntKind.wrap_i64]; omega
          clear hqa hra
          have ca := hgi.cell ca
          have cb := hgi.cell cb
          have hiI : (i : Int) < 25 := by omega
          have hi0 : (0 : Int) ≤ (i : Int) := by omega
          go_upto_region 20 with fail
          obtain ⟨WD, rfl⟩ : ∃ WD : World, WD = wr := ⟨_, rfl⟩
          refine region_hl (fun w' => G WD w') 99 40 (by kernel_rfl) rfl ?_
          simp only [List.replicate_succ, List.replicate_zero]
          have hs0 : G WD WD.drew := (G.refl WD).drew
          refine hl_take_np 0 (by kernel_rfl) (by kernel_rfl) rfl (by kernel_rfl) hs0 (v := ?_) ?_ ?_
          rotate_left
          · (rintro x hx; have k1 := hx.cell ca; have k2 := hx.cell cb; clear hx; go_simp; try rfl)
          simp only [Act.put, List.setIfInBounds_toArray, List.set_cons_zero, List.set_cons_succ]
          refine hl_take_np 1 (by kernel_rfl) (by kernel_rfl) rfl (by kernel_rfl) hs0 (v := ?_) ?_ ?_
          rotate_left
          · (rintro x hx; have k1 := hx.cell ca; have k2 := hx.cell cb; clear hx; go_simp; try rfl)
          simp only [Act.put, List.setIfInBounds_toArray, List.set_cons_zero, List.set_cons_succ]
          refine hl_take_np 2 (by kernel_rfl) (by kernel_rfl) rfl (by kernel_rfl) hs0 (v := ?_) ?_ ?_
          rotate_left
          · (rintro x hx; have k1 := hx.cell ca; have k2 := hx.cell cb; clear hx; go_simp; try rfl)
          simp only [Act.put, List.setIfInBounds_toArray, List.set_cons_zero, List.set_cons_succ]
          refine hl_take_np 3 (by kernel_rfl) (by kernel_rfl) rfl (by kernel_rfl) hs0 (v := ?_) ?_ ?_
          rotate_left
          · (rintro x hx; have k1 := hx.cell ca; have k2 := hx.cell cb; clear hx; go_simp; try rfl)
          simp only [Act.put, List.setIfInBounds_toArray, List.set_cons_zero, List.set_cons_succ]
          refine hl_take_np 4 (by kernel_rfl) (by kernel_rfl) rfl (by kernel_rfl) hs0 (v := ?_) ?_ ?_
          rotate_left
          · (rintro x hx; have k1 := hx.cell ca; have k2 := hx.cell cb; clear hx; go_simp; try rfl)
          simp only [Act.put, List.setIfInBounds_toArray, List.set_cons_zero, List.set_cons_succ]
          refine hl_take_np 5 (by kernel_rfl) (by kernel_rfl) rfl (by kernel_rfl) hs0 (v := ?_) ?_ ?_
          rotate_left
          · (rintro x hx; have k1 := hx.cell ca; have k2 := hx.cell cb; clear hx; go_simp; try rfl)
          simp only [Act.put, List.setIfInBounds_toArray, List.set_cons_zero, List.set_cons_succ]
          refine hl_take_np 6 (by kernel_rfl) (by kernel_rfl) rfl (by kernel_rfl) hs0 (v := ?_) ?_ ?_
          rotate_left
          · (rintro x hx; have k1 := hx.cell ca; have k2 := hx.cell cb; clear hx; go_simp; try rfl)
          simp only [Act.put, List.setIfInBounds_toArray, List.set_cons_zero, List.set_cons_succ]
          refine hl_take_np 7 (by kernel_rfl) (by kernel_rfl) rfl (by kernel_rfl) hs0 (v := ?_) ?_ ?_
          rotate_left
          · (rintro x hx; have k1 := hx.cell ca; have k2 := hx.cell cb; clear hx; go_simp; try rfl)
          simp only [Act.put, List.setIfInBounds_toArray, List.set_cons_zero, List.set_cons_succ]
          refine hl_take_np 8 (by kernel_rfl) (by kernel_rfl) rfl (by kernel_rfl) hs0 (v := ?_) ?_ ?_
          rotate_left
          · (rintro x hx; have k1 := hx.cell ca; have k2 := hx.cell cb; clear hx; go_simp; try rfl)
          simp only [Act.put, List.setIfInBounds_toArray, List.set_cons_zero, List.set_cons_succ]
          refine hl_take_np 9 (by kernel_rfl) (by kernel_rfl) rfl (by kernel_rfl) hs0 (v := ?_) ?_ ?_
          rotate_left
          · (rintro x hx; have k1 := hx.cell ca; have k2 := hx.cell cb; clear hx; go_simp; try rfl)
          simp only [Act.put, List.setIfInBounds_toArray, List.set_cons_zero, List.set_cons_succ]
          refine hl_take_np 10 (by kernel_rfl) (by kernel_rfl) rfl (by kernel_rfl) hs0 (v := ?_) ?_ ?_
          rotate_left
          · (rintro x hx; have k1 := hx.cell ca; have k2 := hx.cell cb; clear hx; go_simp; try rfl)
          simp only [Act.put, List.setIfInBounds_toArray, List.set_cons_zero, List.set_cons_succ]
          refine hl_take_np 11 (by kernel_rfl) (by kernel_rfl) rfl (by kernel_rfl) hs0 (v := ?_) ?_ ?_
          rotate_left
          · (rintro x hx; have k1 := hx.cell ca; have k2 := hx.cell cb; clear hx; go_simp; try rfl)
          simp only [Act.put, List.setIfInBounds_toArray, List.set_cons_zero, List.set_cons_succ]
          refine hl_take_np 12 (by kernel_rfl) (by kernel_rfl) rfl (by kernel_rfl) hs0 (v := ?_) ?_ ?_
          rotate_left
          · (rintro x hx; have k1 := hx.cell ca; have k2 := hx.cell cb; clear hx; go_simp; try rfl)
          simp only [Act.put, List.setIfInBounds_toArray, List.set_cons_zero, List.set_cons_succ]
          refine hl_take_np 13 (by kernel_rfl) (by kernel_rfl) rfl (by kernel_rfl) hs0 (v := ?_) ?_ ?_
          rotate_left
          · (rintro x hx; have k1 := hx.cell ca; have k2 := hx.cell cb; clear hx; go_simp; try rfl)
          simp only [Act.put, List.setIfInBounds_toArray, List.set_cons_zero, List.set_cons_succ]
          refine hl_take_np 14 (by kernel_rfl) (by kernel_rfl) rfl (by kernel_rfl) hs0 (v := ?_) ?_ ?_
          rotate_left
          · (rintro x hx; have k1 := hx.cell ca; have k2 := hx.cell cb; clear hx; go_simp; try rfl)
          simp only [Act.put, List.setIfInBounds_toArray, List.set_cons_zero, List.set_cons_succ]
          refine hl_take_np 15 (by kernel_rfl) (by kernel_rfl) rfl (by kernel_rfl) hs0 (v := ?_) ?_ ?_
          rotate_left
          · (rintro x hx; have k1 := hx.cell ca; have k2 := hx.cell cb; clear hx; go_simp; try rfl)
          simp only [Act.put, List.setIfInBounds_toArray, List.set_cons_zero, List.set_cons_succ]
          refine hl_take_np 16 (by kernel_rfl) (by kernel_rfl) rfl (by kernel_rfl) hs0 (v := ?_) ?_ ?_
          rotate_left
          · (rintro x hx; have k1 := hx.cell ca; have k2 := hx.cell cb; clear hx; go_simp; try rfl)
          simp only [Act.put, List.setIfInBounds_toArray, List.set_cons_zero, List.set_cons_succ]
          refine hl_take_np 17 (by kernel_rfl) (by kernel_rfl) rfl (by kernel_rfl) hs0 (v := ?_) ?_ ?_
          rotate_left
          · (rintro x hx; have k1 := hx.cell ca; have k2 := hx.cell cb; clear hx; go_simp; try rfl)
          simp only [Act.put, List.setIfInBounds_toArray, List.set_cons_zero, List.set_cons_succ]
          refine hl_take_np 18 (by kernel_rfl) (by kernel_rfl) rfl (by kernel_rfl) hs0 (v := ?_) ?_ ?_
          rotate_left
          · (rintro x hx; have k1 := hx.cell ca; have k2 := hx.cell cb; clear hx; go_simp; try rfl)
          simp only [Act.put, List.setIfInBounds_toArray, List.set_cons_zero, List.set_cons_succ]
          refine hl_take_np 19 (by kernel_rfl) (by kernel_rfl) rfl (by kernel_rfl) hs0 (v := ?_) ?_ ?_
          rotate_left
          · (rintro x hx; have k1 := hx.cell ca; have k2 := hx.cell cb; clear hx; go_simp; try rfl)
          simp only [Act.put, List.setIfInBounds_toArray, List.set_cons_zero, List.set_cons_succ]
          refine hl_take_np 20 (by kernel_rfl) (by kernel_rfl) rfl (by kernel_rfl) hs0 (v := ?_) ?_ ?_
          rotate_left
          · (rintro x hx; have k1 := hx.cell ca; have k2 := hx.cell cb; clear hx; go_simp; try rfl)
          simp only [Act.put, List.setIfInBounds_toArray, List.set_cons_zero, List.set_cons_succ]
          refine hl_take_np 21 (by kernel_rfl) (by kernel_rfl) rfl (by kernel_rfl) hs0 (v := ?_) ?_ ?_
          rotate_left
          · (rintro x hx; have k1 := hx.cell ca; have k2 := hx.cell cb; clear hx; go_simp; try rfl)
          simp only [Act.put, List.setIfInBounds_toArray, List.set_cons_zero, List.set_cons_succ]
          refine hl_take_np 22 (by kernel_rfl) (by kernel_rfl) rfl (by kernel_rfl) hs0 (v := ?_) ?_ ?_
          rotate_left
          · (rintro x hx; have k1 := hx.cell ca; have k2 := hx.cell cb; clear hx; go_simp; try rfl)
          simp only [Act.put, List.setIfInBounds_toArray, List.set_cons_zero, List.set_cons_succ]
          refine hl_take_np 24 (by kernel_rfl) (by kernel_rfl) rfl (by kernel_rfl) hs0 (v := ?_) ?_ ?_
          rotate_left
          · (rintro x hx; have k1 := hx.cell ca; have k2 := hx.cell cb; clear hx; go_simp; try rfl)
          simp only [Act.put, List.setIfInBounds_toArray, List.set_cons_zero, List.set_cons_succ]
          refine hl_take_np 25 (by kernel_rfl) (by kernel_rfl) rfl (by kernel_rfl) hs0 (v := ?_) ?_ ?_
          rotate_left
          · (rintro x hx; have k1 := hx.cell ca; have k2 := hx.cell cb; clear hx; go_simp; try rfl)
          simp only [Act.put, List.setIfInBounds_toArray, List.set_cons_zero, List.set_cons_succ]
          refine hl_take_np 26 (by kernel_rfl) (by kernel_rfl) rfl (by kernel_rfl) hs0 (v := ?_) ?_ ?_
          rotate_left
          · (rintro x hx; have k1 := hx.cell ca; have k2 := hx.cell cb; clear hx; go_simp; try rfl)
          simp only [Act.put, List.setIfInBounds_toArray, List.set_cons_zero, List.set_cons_succ]
          refine hl_take_np 27 (by kernel_rfl) (by kernel_rfl) rfl (by kernel_rfl) hs0 (v := ?_) ?_ ?_
          rotate_left
          · (rintro x hx; have k1 := hx.cell ca; have k2 := hx.cell cb; clear hx; go_simp; try rfl)
          simp only [Act.put, List.setIfInBounds_toArray, List.set_cons_zero, List.set_cons_succ]
          refine hl_take_np 28 (by kernel_rfl) (by kernel_rfl) rfl (by kernel_rfl) hs0 (v := ?_) ?_ ?_
          rotate_left
          · (rintro x hx; have k1 := hx.cell ca; have k2 := hx.cell cb; clear hx; go_simp; try rfl)
          simp only [Act.put, List.setIfInBounds_toArray, List.set_cons_zero, List.set_cons_succ]
          refine hl_take_np 29 (by kernel_rfl) (by kernel_rfl) rfl (by kernel_rfl) hs0 (v := ?_) ?_ ?_
          rotate_left
          · (rintro x hx; have k1 := hx.cell ca; have k2 := hx.cell cb; clear hx; go_simp; try rfl)
          simp only [Act.put, List.setIfInBounds_toArray, List.set_cons_zero, List.set_cons_succ]
          refine hl_take_np 30 (by kernel_rfl) (by kernel_rfl) rfl (by kernel_rfl) hs0 (v := ?_) ?_ ?_
          rotate_left
          · (rintro x hx; have k1 := hx.cell ca; have k2 := hx.cell cb; clear hx; go_simp; try rfl)
          simp only [Act.put, List.setIfInBounds_toArray, List.set_cons_zero, List.set_cons_succ]
          refine hl_take_np 31 (by kernel_rfl) (by kernel_rfl) rfl (by kernel_rfl) hs0 (v := ?_) ?_ ?_
          rotate_left
          · (rintro x hx; have k1 := hx.cell ca; have k2 := hx.cell cb; clear hx; go_simp; try rfl)
          simp only [Act.put, List.setIfInBounds_toArray, List.set_cons_zero, List.set_cons_succ]
          refine hl_take_np 32 (by kernel_rfl) (by kernel_rfl) rfl (by kernel_rfl) hs0 (v := ?_) ?_ ?_
          rotate_left
          · (rintro x hx; have k1 := hx.cell ca; have k2 := hx.cell cb; clear hx; go_simp; try rfl)
          simp only [Act.put, List.setIfInBounds_toArray, List.set_cons_zero, List.set_cons_succ]
          refine hl_take_np 33 (by kernel_rfl) (by kernel_rfl) rfl (by kernel_rfl) hs0 (v := ?_) ?_ ?_
          rotate_left
          · (rintro x hx; have k1 := hx.cell ca; have k2 := hx.cell cb; clear hx; go_simp; try rfl)
          simp only [Act.put, List.setIfInBounds_toArray, List.set_cons_zero, List.set_cons_succ]
          refine hl_take_np 34 (by kernel_rfl) (by kernel_rfl) rfl (by kernel_rfl) hs0 (v := ?_) ?_ ?_
          rotate_left
          · (rintro x hx; have k1 := hx.cell ca; have k2 := hx.cell cb; clear hx; go_simp; try rfl)
          simp only [Act.put, List.setIfInBounds_toArray, List.set_cons_zero, List.set_cons_succ]
          refine hl_take_np 35 (by kernel_rfl) (by kernel_rfl) rfl (by kernel_rfl) hs0 (v := ?_) ?_ ?_
          rotate_left
          · (rintro x hx; have k1 := hx.cell ca; have k2 := hx.cell cb; clear hx; go_simp; try rfl)
          simp only [Act.put, List.setIfInBounds_toArray, List.set_cons_zero, List.set_cons_succ]
          refine hl_take_np 36 (by kernel_rfl) (by kernel_rfl) rfl (by kernel_rfl) hs0 (v := ?_) ?_ ?_
          rotate_left
          · (rintro x hx; have k1 := hx.cell ca; have k2 := hx.cell cb; clear hx; go_simp; try rfl)
          simp only [Act.put, List.setIfInBounds_toArray, List.set_cons_zero, List.set_cons_succ]
          refine hl_two 23 37 (by kernel_rfl) rfl rfl ?_ ?_
          · go_wp2_with fail
            show _ ∧ _
            have hs1 : G WD (WD.alloc (.cells (icells [(a, b), (b, 0), (0, a)]).toArray 40 (0, 0))).drew := ((G.refl WD).alloc _).drew
            refine ⟨(by first | exact hs1 | exact fun _ => hs1), ?_⟩
            refine hl_step 37 (by kernel_rfl) rfl ?_
            go_wp2_with fail
            show _ ∧ _
            have hs2 : G WD ((WD.alloc (.cells (icells [(a, b), (b, 0), (0, a)]).toArray 40 (0, 0))).alloc (.cells (dcells [dd 2 b 2, dd 1 0 0, dd 2 a 8]).toArray 34 (0, 0))).drew := (((G.refl WD).alloc _).alloc _).drew
            refine ⟨(by first | exact hs2 | exact fun _ => hs2), ?_⟩
            refine hl_stepW 38 (by kernel_rfl) rfl (by kernel_rfl) ?_
            intro K hK
            have hD := Lib.hid (does_any [(a, b), (b, 0), (0, a)] [dd 2 b 2, dd 1 0 0, dd 2 a 8] (.slice (some ⟨WD.heap.size, 0, none⟩) 3 3) (.slice (some ⟨WD.heap.size + 1, 0, none⟩) 3 3) ((WD.alloc (.cells (icells [(a, b), (b, 0), (0, a)]).toArray 40 (0, 0))).alloc (.cells (dcells [dd 2 b 2, dd 1 0 0, dd 2 a 8]).toArray 34 (0, 0))).drew ((rdr_alloc WD (icells [(a, b), (b, 0), (0, a)]) 40 (0, 0) 2 3 3 rfl).g (((G.refl _).alloc _).drew)) (rdrD_of ((by have := rdr_alloc (WD.alloc (.cells (icells [(a, b), (b, 0), (0, a)]).toArray 40 (0, 0))) (dcells [dd 2 b 2, dd 1 0 0, dd 2 a 8]) 34 (0, 0) 4 3 3 rfl; rw [World.size_alloc] at this; exact this.g (G.refl _).drew)) (by
              intro d hd; simp only [List.mem_cons, List.not_mem_nil, or_false] at hd; rcases hd with rfl | rfl | rfl <;> exact ⟨_, _, _, rfl⟩)) (by simp) (by simp [dd]) (by simp) (by
              intro x hx; simp only [List.mem_cons, List.not_mem_nil, or_false] at hx; rcases hx with rfl | rfl | rfl
              · exact ha9
              · exact hb9
              · exact (show (0 : Int) ≤ 9223372036854775807 by decide)) (by simp [dd]))
            go_simp
            refine hD.out.mono ?_
            rintro e w3 ⟨rfl, hg3⟩
            have hs3 : G WD w3 := hs2.trans hg3
            refine hK _ _ (fun _ => hs3) ?_
            clear hK hD
            simp only [Act.put, List.setIfInBounds_toArray, List.set_cons_zero, List.set_cons_succ]
            refine hl_take_np 39 (by kernel_rfl) (by kernel_rfl) rfl (by kernel_rfl) hs3 (v := ?_) ?_ ?_
            rotate_left
            · (rintro x hx; clear hx; go_simp; try rfl)
            simp only [Act.put, List.setIfInBounds_toArray, List.set_cons_zero, List.set_cons_succ]
            refine hl_done (by kernel_rfl) ?_ _
            refine NoPanic.normal ?_
            clear ca cb
            go_wp2_with fail
            go_roundw
            case rel => exact ⟨i + 1, by omega, by go_num, hgi.trans hs3⟩
            case measure => simp [intOf]; omega
          · go_wp2_with fail
            show _ ∧ _
            have hs1 : G WD (WD.alloc (.cells (dcells [dd 2 b 2, dd 1 0 0, dd 2 a 8]).toArray 34 (0, 0))).drew := ((G.refl WD).alloc _).drew
            refine ⟨(by first | exact hs1 | exact fun _ => hs1), ?_⟩
            refine hl_step 23 (by kernel_rfl) rfl ?_
            go_wp2_with fail
            show _ ∧ _
            have hs2 : G WD ((WD.alloc (.cells (dcells [dd 2 b 2, dd 1 0 0, dd 2 a 8]).toArray 34 (0, 0))).alloc (.cells (icells [(a, b), (b, 0), (0, a)]).toArray 40 (0, 0))).drew := (((G.refl WD).alloc _).alloc _).drew
            refine ⟨(by first | exact hs2 | exact fun _ => hs2), ?_⟩
            refine hl_stepW 38 (by kernel_rfl) rfl (by kernel_rfl) ?_
            intro K hK
            have hD := Lib.hid (does_any [(a, b), (b, 0), (0, a)] [dd 2 b 2, dd 1 0 0, dd 2 a 8] (.slice (some ⟨WD.heap.size + 1, 0, none⟩) 3 3) (.slice (some ⟨WD.heap.size, 0, none⟩) 3 3) ((WD.alloc (.cells (dcells [dd 2 b 2, dd 1 0 0, dd 2 a 8]).toArray 34 (0, 0))).alloc (.cells (icells [(a, b), (b, 0), (0, a)]).toArray 40 (0, 0))).drew (by have := rdr_alloc (WD.alloc (.cells (dcells [dd 2 b 2, dd 1 0 0, dd 2 a 8]).toArray 34 (0, 0))) (icells [(a, b), (b, 0), (0, a)]) 40 (0, 0) 2 3 3 rfl; rw [World.size_alloc] at this; exact this.g (G.refl _).drew) (rdrD_of ((rdr_alloc WD (dcells [dd 2 b 2, dd 1 0 0, dd 2 a 8]) 34 (0, 0) 4 3 3 rfl).g (((G.refl _).alloc _).drew)) (by
              intro d hd; simp only [List.mem_cons, List.not_mem_nil, or_false] at hd; rcases hd with rfl | rfl | rfl <;> exact ⟨_, _, _, rfl⟩)) (by simp) (by simp [dd]) (by simp) (by
              intro x hx; simp only [List.mem_cons, List.not_mem_nil, or_false] at hx; rcases hx with rfl | rfl | rfl
              · exact ha9
              · exact hb9
              · exact (show (0 : Int) ≤ 9223372036854775807 by decide)) (by simp [dd]))
            go_simp
            refine hD.out.mono ?_
            rintro e w3 ⟨rfl, hg3⟩
            have hs3 : G WD w3 := hs2.trans hg3
            refine hK _ _ (fun _ => hs3) ?_
            clear hK hD
            simp only [Act.put, List.setIfInBounds_toArray, List.set_cons_zero, List.set_cons_succ]
            refine hl_take_np 39 (by kernel_rfl) (by kernel_rfl) rfl (by kernel_rfl) hs3 (v := ?_) ?_ ?_
            rotate_left
            · (rintro x hx; clear hx; go_simp; try rfl)
            simp only [Act.put, List.setIfInBounds_toArray, List.set_cons_zero, List.set_cons_succ]
            refine hl_done (by kernel_rfl) ?_ _
            refine NoPanic.normal ?_
            clear ca cb
            go_wp2_with fail
            go_roundw
            case rel => exact ⟨i + 1, by omega, by go_num, hgi.trans hs3⟩
            case measure => simp [intOf]; omega
        · obtain rfl : i = 25 := by omega
          have hgE := hgC.trans hgi
          have HN := Lib.hid (none_any wr)
          go_wp2_with fail
          refine HN.out.mono ?_
          rintro e w3 ⟨rfl, hg3⟩
          have HA := Lib.hid (awake_any w3)
          clear HN
          go_wp2_with fail
          refine HA.out.mono ?_
          rintro e w4 ⟨rfl, hg4⟩
          go_wp2_with fail
          go_ret
          exact ⟨rfl, (hgE.trans hg3).trans hg4⟩
end Go.Proofs.Ythdeehpnlcpbnaa
