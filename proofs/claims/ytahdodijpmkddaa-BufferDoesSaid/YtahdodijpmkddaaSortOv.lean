/- laid together: SortOv -/
import Derived.Test.YtahdodijpmkddaaSortEs
set_option maxRecDepth 10000
/- props, edges, rows of edges that are written over -/
namespace Go.Proofs.Ytahdodijpmkddaa
set_option linter.unusedVariables false
set_option linter.unusedSimpArgs false
open Go.RowKit Go.Shelf
attribute [local go_sem] Oper.semAt_some

/-- a slice of n elements that lies in a block from base on, whatever it holds -/
def Room (W : World) (base : Nat) (e : TypeId) (size : Nat) (v : Value) (n : Nat) : Prop :=
  (v = .slice none 0 0 ∧ n = 0) ∨ ∃ g c cur, v = .slice (some ⟨g, 0, none⟩) n c ∧ base ≤ g ∧ W.heap[g]? = some (.cells cur e (0, 0)) ∧ cur.size = c * size ∧ n ≤ c ∧ c ≤ maxLen
theorem room_of {W : World} {base : Nat} {e : TypeId} {size n : Nat} {v : Value} {xs : List Value} (h : W.ownsRow base e size v n xs) : Room W base e size v n := by
  rcases h.2 with h | ⟨g, c, cur, h1, h2, h3, h4, h5, h6, h7⟩
  · exact .inl h
  · exact .inr ⟨g, c, cur, h1, h2, h3, h6, h4, h5⟩
theorem Room.mono {W : World} {base base' : Nat} {e : TypeId} {size n : Nat} {v : Value} (h : Room W base e size v n) (hb : base' ≤ base) : Room W base' e size v n := by
  rcases h with h | ⟨g, c, cur, h1, h2, h3⟩
  · exact .inl h
  · exact .inr ⟨g, c, cur, h1, Nat.le_trans hb h2, h3⟩
/-- blocks keep their kind and their size -/
def Keeps (W W' : World) : Prop := ∀ (g : Nat) (cur : Array Value) (e : TypeId), W.heap[g]? = some (.cells cur e (0, 0)) → ∃ cur', W'.heap[g]? = some (.cells cur' e (0, 0)) ∧ cur'.size = cur.size
theorem Keeps.refl (W : World) : Keeps W W := fun g cur e h => ⟨cur, h, rfl⟩
theorem Keeps.trans {A B C : World} (h : Keeps A B) (k : Keeps B C) : Keeps A C := fun g cur e hg => by
  obtain ⟨c1, h1, h2⟩ := h g cur e hg
  obtain ⟨c2, h3, h4⟩ := k g c1 e h1
  exact ⟨c2, h3, h4.trans h2⟩
theorem Keeps.g {A B : World} (h : G A B) : Keeps A B := fun g cur e hg => ⟨cur, (h.block (heap_lt hg)).trans hg, rfl⟩
theorem Keeps.set {A : World} (g j : Nat) (v : Value) : Keeps A (A.setCell ⟨g, j, none⟩ v) := fun k cur e hk => by
  by_cases h : k = g
  · subst h; exact ⟨_, heap_setCell_at A k j v cur e (0, 0) hk, by simp⟩
  · exact ⟨cur, (Below.heap_setCell A ⟨g, j, none⟩ v k h).trans hk, rfl⟩
theorem Room.keeps {W W' : World} {base : Nat} {e : TypeId} {size n : Nat} {v : Value} (h : Room W base e size v n) (hk : Keeps W W') : Room W' base e size v n := by
  rcases h with h | ⟨g, c, cur, h1, h2, h3, h4, h5⟩
  · exact .inl h
  · obtain ⟨cur', h6, h7⟩ := hk g cur e h3
    exact .inr ⟨g, c, cur', h1, h2, h6, h7.trans h4, h5⟩
theorem room_cell {W : World} {g c k j size : Nat} {cur : Array Value} {e : TypeId} (h : W.heap[g]? = some (.cells cur e (0, 0))) (hs : cur.size = c * size) (hk : k < c) (hj : j < size) : ∃ u, W.cell? ⟨g, k * size + j, none⟩ = some u := by
  have hlt : k * size + j < cur.size := by
    rw [hs]
    have : (k + 1) * size ≤ c * size := Nat.mul_le_mul_right _ hk
    rw [Nat.succ_mul] at this
    omega
  exact ⟨cur[k * size + j], by unfold World.cell?; rw [h]; simp [hlt]⟩
theorem room_froz {W : World} {g : Nat} {cur : Array Value} {e : TypeId} (h : W.heap[g]? = some (.cells cur e (0, 0))) (j : Nat) : W.frozen? ⟨g, j, none⟩ = false := by unfold World.frozen?; rw [h]; simp
set_option maxHeartbeats 1000000 in
theorem overP_any (v : Value) (n base : Nat) (w : World) (h : Room w base 86 4 v n) (hn : n ≤ 1000000) :
    Calls Try.prog 39 #[v] w fun e w' => (∃ u, e = .returned u) ∧ Fr (fun q => v.ownBlock = some q) w w' ∧ Keeps w w' := by
  rcases h with ⟨rfl, rfl⟩ | ⟨g, c, cur, rfl, hb, hg, hs, hnc, hc⟩
  · go_enter Try.func39, Try.ntmps39
    go_wp2_with fail
    go_loop [3] (fun i => i = .int .i64 0) (fun _ => 0)
    case atStart => rfl
    case round =>
      obtain rfl := hrel
      go_wp2_with fail
      go_returns
      exact ⟨⟨_, rfl⟩, Fr.refl _ _, Keeps.refl _⟩
  · obtain ⟨q, hq⟩ : ∃ q, q = n + 12 := ⟨_, rfl⟩
    have hqI : (n : Int) + 12 = (q : Int) := by omega
    have hq1 : n + 12 ≤ q := by omega
    have hq2 : q ≤ n + 12 := by omega
    have hcI : c ≤ 9223372036854775807 := by unfold maxLen at hc; exact hc
    have HG := Lib.hid hg
    have HS := Lib.hid hs
    clear hg hs hc hq
    by_cases hcq : c ≤ q
    · have hcqI : (c : Int) ≤ (q : Int) := by omega
      have hc9 : c ≤ 1000012 := by omega
      go_enter Try.func39, Try.ntmps39
      go_wp2_with fail
      go_loopw [3] (fun i wr => ∃ k : Nat, k ≤ c ∧ i = .int .i64 k ∧ Fr (fun q => (Value.slice (some ⟨g, 0, none⟩) n c).ownBlock = some q) w wr ∧ Keeps w wr) (fun i _ => c - (intOf i).toNat)
      case atStart => exact ⟨0, by omega, rfl, Fr.refl _ _, Keeps.refl _⟩
      case round =>
        obtain ⟨k, hk, rfl, hf, hkp⟩ := hrel
        by_cases hlt : k < c
        · have hltI : (k : Int) < (c : Int) := by omega
          have HFK := Lib.hid (And.intro hf hkp)
          clear hf hkp
          go_wp2_with fail
          refine (markProp_any 2 k wr (by omega) (by omega) (by omega) (by omega)).mono ?_
          rintro e w2 ⟨rfl, hg2⟩
          obtain ⟨cur', hh, hsz⟩ := (HFK.out.2.trans (Keeps.g hg2)) g cur _ HG.out
          obtain ⟨u0, c0⟩ := room_cell hh (hsz.trans HS.out) (show k < c by omega) (show 0 < 4 by omega)
          obtain ⟨u1, c1⟩ := room_cell hh (hsz.trans HS.out) (show k < c by omega) (show 1 < 4 by omega)
          obtain ⟨u2, c2⟩ := room_cell hh (hsz.trans HS.out) (show k < c by omega) (show 2 < 4 by omega)
          obtain ⟨u3, c3⟩ := room_cell hh (hsz.trans HS.out) (show k < c by omega) (show 3 < 4 by omega)
          rw [Nat.add_zero] at c0
          have f0 := room_froz hh (k * 4)
          have f1 := room_froz hh (k * 4 + 1)
          have f2 := room_froz hh (k * 4 + 2)
          have f3 := room_froz hh (k * 4 + 3)
          have HG2 := Lib.hid hg2
          clear hh hsz hg2
          go_wp2_with fail
          go_roundw
          case rel =>
            refine ⟨k + 1, by omega, by go_num, ?_, ?_⟩
            · exact ((((HFK.out.1.trans (HG2.out.fr (fun _ => False)) (fun _ _ h => h.elim)).setCell (p := ⟨g, k * 4, none⟩) (.inl rfl) _).setCell (p := ⟨g, k * 4 + 1, none⟩) (.inl rfl) _).setCell (p := ⟨g, k * 4 + 2, none⟩) (.inl rfl) _).setCell (p := ⟨g, k * 4 + 3, none⟩) (.inl rfl) _
            · exact ((((HFK.out.2.trans (Keeps.g HG2.out)).trans (Keeps.set _ _ _)).trans (Keeps.set _ _ _)).trans (Keeps.set _ _ _)).trans (Keeps.set _ _ _)
          case measure => simp [intOf]; omega
        · have hltI : ¬ (k : Int) < (c : Int) := by omega
          go_wp2_with fail
          go_returns
          exact ⟨⟨_, rfl⟩, hf, hkp⟩
    · have hcqI : ¬ (c : Int) ≤ (q : Int) := by omega
      have hqcI : (q : Int) ≤ (c : Int) := by omega
      go_enter Try.func39, Try.ntmps39
      go_wp2_with fail
      go_loopw [3] (fun i wr => ∃ k : Nat, k ≤ q ∧ i = .int .i64 k ∧ Fr (fun q => (Value.slice (some ⟨g, 0, none⟩) n c).ownBlock = some q) w wr ∧ Keeps w wr) (fun i _ => q - (intOf i).toNat)
      case atStart => exact ⟨0, by omega, rfl, Fr.refl _ _, Keeps.refl _⟩
      case round =>
        obtain ⟨k, hk, rfl, hf, hkp⟩ := hrel
        by_cases hlt : k < q
        · have hltI : (k : Int) < (q : Int) := by omega
          have HFK := Lib.hid (And.intro hf hkp)
          clear hf hkp
          go_wp2_with fail
          refine (markProp_any 2 k wr (by omega) (by omega) (by omega) (by omega)).mono ?_
          rintro e w2 ⟨rfl, hg2⟩
          obtain ⟨cur', hh, hsz⟩ := (HFK.out.2.trans (Keeps.g hg2)) g cur _ HG.out
          obtain ⟨u0, c0⟩ := room_cell hh (hsz.trans HS.out) (show k < c by omega) (show 0 < 4 by omega)
          obtain ⟨u1, c1⟩ := room_cell hh (hsz.trans HS.out) (show k < c by omega) (show 1 < 4 by omega)
          obtain ⟨u2, c2⟩ := room_cell hh (hsz.trans HS.out) (show k < c by omega) (show 2 < 4 by omega)
          obtain ⟨u3, c3⟩ := room_cell hh (hsz.trans HS.out) (show k < c by omega) (show 3 < 4 by omega)
          rw [Nat.add_zero] at c0
          have f0 := room_froz hh (k * 4)
          have f1 := room_froz hh (k * 4 + 1)
          have f2 := room_froz hh (k * 4 + 2)
          have f3 := room_froz hh (k * 4 + 3)
          have HG2 := Lib.hid hg2
          clear hh hsz hg2
          go_wp2_with fail
          go_roundw
          case rel =>
            refine ⟨k + 1, by omega, by go_num, ?_, ?_⟩
            · exact ((((HFK.out.1.trans (HG2.out.fr (fun _ => False)) (fun _ _ h => h.elim)).setCell (p := ⟨g, k * 4, none⟩) (.inl rfl) _).setCell (p := ⟨g, k * 4 + 1, none⟩) (.inl rfl) _).setCell (p := ⟨g, k * 4 + 2, none⟩) (.inl rfl) _).setCell (p := ⟨g, k * 4 + 3, none⟩) (.inl rfl) _
            · exact ((((HFK.out.2.trans (Keeps.g HG2.out)).trans (Keeps.set _ _ _)).trans (Keeps.set _ _ _)).trans (Keeps.set _ _ _)).trans (Keeps.set _ _ _)
          case measure => simp [intOf]; omega
        · have hltI : ¬ (k : Int) < (q : Int) := by omega
          go_wp2_with fail
          go_returns
          exact ⟨⟨_, rfl⟩, hf, hkp⟩
theorem room_apart {W : World} {base base' g : Nat} {v u : Value} {n m : Nat} {xs : List Value} (h : Room W base 86 4 v n) (hr : W.ownsRow base' 33 5 u m xs) (hg : u.ownBlock = some g) : ¬ v.ownBlock = some g := by
  intro hk
  obtain ⟨c2, h2⟩ := own_type hr hg
  rcases h with ⟨rfl, -⟩ | ⟨g', c, cur, rfl, -, h1, -⟩
  · cases hk
  · cases hk
    rw [h1] at h2
    simp at h2
theorem Room.isS {W : World} {base : Nat} {e : TypeId} {size n : Nat} {v : Value} (h : Room W base e size v n) : ∃ p c, v = .slice p n c := by
  rcases h with ⟨rfl, rfl⟩ | ⟨g, c, cur, rfl, -⟩
  · exact ⟨_, _, rfl⟩
  · exact ⟨_, _, rfl⟩
theorem Room.base {W : World} {base : Nat} {e : TypeId} {size n : Nat} {v : Value} (h : Room W base e size v n) {q : Nat} (hq : v.ownBlock = some q) : base ≤ q := by
  rcases h with ⟨rfl, -⟩ | ⟨g, c, cur, rfl, hb, -⟩
  · cases hq
  · cases hq; exact hb
theorem overE_any (E : Edg) (n base : Nat) (w : World) (h : Room w base 86 4 E.v n) (hn : n ≤ 1000000) :
    Calls Try.prog 17 #[ev E] w fun e w' => (∃ u, e = .returned u) ∧ Fr (fun q => E.v.ownBlock = some q) w w' ∧ Keeps w w' := by
  obtain ⟨f, t, l, tm, v, ps⟩ := E
  obtain ⟨p, c, hv⟩ := h.isS
  simp only at hv h
  subst hv
  unfold ev
  simp only
  obtain ⟨W1, hW1⟩ : ∃ X : World, X = w.alloc (.cells #[.string f, .string t, .string l, .int .i64 tm, .slice p n c] 33) := ⟨_, rfl⟩
  have hg1 : G w W1 := by rw [hW1]; exact (G.refl w).alloc _
  have hb1 : W1.heap[w.heap.size]? = some (.cells #[.string f, .string t, .string l, .int .i64 tm, .slice p n c] 33 (0, 0)) := by rw [hW1]; exact alloc_new _ _
  obtain ⟨-, -, -, -, e4⟩ := cells5 hb1
  have HC := Lib.hid (overP_any _ n base W1 (h.keeps (Keeps.g hg1)) hn)
  have HW1 := Lib.hid hW1
  have HG1 := Lib.hid hg1
  clear h hW1 hg1 hb1
  go_enter Try.func17, Try.ntmps17
  go_upto_region 1 with fail
  rw [← HW1.out]
  go_wp2_with fail
  refine HC.out.mono ?_
  rintro e w2 ⟨⟨u, rfl⟩, hf, hk⟩
  have HF := Lib.hid (And.intro hf hk)
  clear hf hk
  go_wp2_with fail
  go_returns
  exact ⟨⟨_, rfl⟩, (HG1.out.fr _).trans HF.out.1 (fun _ _ h => h), (Keeps.g HG1.out).trans HF.out.2⟩
set_option maxHeartbeats 2000000 in
theorem overEs_any (L : List Edg) (v : Value) (n base : Nat) (w : World) (hr : w.ownsRow base 33 5 v n (ecs L)) (hE : ∀ E ∈ L, ∃ m, m ≤ 1000000 ∧ Room w base 86 4 E.v m) (hn : n ≤ 1000000) :
    Calls Try.prog 11 #[v] w fun e w' => (∃ u, e = .returned u) ∧ Fr (fun q => base ≤ q) w w' := by
  have hll : L.length = n := by have := hr.1; rw [ecs_len] at this; omega
  rcases id hr.2 with ⟨rfl, hn0⟩ | ⟨g, c, cur, rfl, hb, hg, hnc, hcm, hs, -⟩
  · subst hn0
    clear hr hE hll
    go_enter Try.func11, Try.ntmps11
    go_wp2_with fail
    go_loop [2] (fun i => i = .int .i64 0) (fun _ => 0)
    case atStart => rfl
    case round =>
      obtain rfl := hrel
      go_wp2_with fail
      go_loop [4] (fun i => i = .int .i64 0) (fun _ => 0)
      case atStart => rfl
      case round =>
        obtain rfl := hrel
        go_wp2_with fail
        go_returns
        exact ⟨⟨_, rfl⟩, Fr.refl _ _⟩
  · have HR := Lib.hid hr
    have HE := Lib.hid hE
    have HL := Lib.hid hll
    have HG := Lib.hid hg
    have HS := Lib.hid hs
    have hcI : c ≤ 9223372036854775807 := by unfold maxLen at hcm; exact hcm
    obtain ⟨q, hq⟩ : ∃ q, q = n + 12 := ⟨_, rfl⟩
    have hqI : (n : Int) + 12 = (q : Int) := by omega
    have hq1 : n + 12 ≤ q := by omega
    have hq2 : q ≤ n + 12 := by omega
    clear hr hE hll hg hs hcm hq
    go_enter Try.func11, Try.ntmps11
    go_wp2_with fail
    go_loopw [2] (fun i wr => ∃ k : Nat, k ≤ n ∧ i = .int .i64 k ∧ Hid (wr.ownsRow base 33 5 (.slice (some ⟨g, 0, none⟩) n c) n (ecs L) ∧ Fr (fun q => base ≤ q) w wr ∧ Keeps w wr)) (fun i _ => n - (intOf i).toNat)
    case atStart => exact ⟨0, by omega, rfl, Lib.hid ⟨HR.out, Fr.refl _ _, Keeps.refl _⟩⟩
    case round =>
      obtain ⟨k, hk, rfl, HI⟩ := hrel
      by_cases hlt : k < n
      · have hltI : (k : Int) < (n : Int) := by omega
        obtain ⟨E, hE⟩ : ∃ x, L[k]? = some x := ⟨L[k]'(by have := HL.out; omega), List.getElem?_eq_getElem _⟩
        obtain ⟨x0, x1, x2, x3, x4⟩ := ecs_get hE
        have c0 := HI.out.1.cells (g := g) rfl _ _ x0
        have c1 := HI.out.1.cells (g := g) rfl _ _ x1
        have c2 := HI.out.1.cells (g := g) rfl _ _ x2
        have c3 := HI.out.1.cells (g := g) rfl _ _ x3
        have c4 := HI.out.1.cells (g := g) rfl _ _ x4
        rw [addr_add, Nat.zero_add] at c0 c1 c2 c3 c4
        obtain ⟨m, hm, hro⟩ := HE.out E (List.mem_of_getElem? hE)
        have hro := hro.keeps HI.out.2.2
        have HC := Lib.hid (overE_any E m base wr hro hm)
        obtain ⟨vp, vc, hv⟩ := hro.isS
        have HRO := Lib.hid hro
        unfold ev at HC
        rw [hv] at HC c4 HRO
        clear hE x0 x1 x2 x3 x4 hm hro hv
        go_wp2_with fail
        refine HC.out.mono ?_
        rintro e w2 ⟨⟨u, rfl⟩, hf, hkp⟩
        have HI2 := Lib.hid (show w2.ownsRow base 33 5 (.slice (some ⟨g, 0, none⟩) n c) n (ecs L) ∧ Fr (fun q => base ≤ q) w w2 ∧ Keeps w w2 from
          ⟨hf.ownsRow HI.out.1 (fun g' hg' => room_apart HRO.out HI.out.1 hg'), HI.out.2.1.trans hf (fun q _ e => HRO.out.base e), HI.out.2.2.trans hkp⟩)
        clear hf hkp HC c0 c1 c2 c3 c4
        go_wp2_with fail
        go_roundw
        case rel => exact ⟨k + 1, by omega, by go_num, HI2⟩
        case measure => simp [intOf]; omega
      · have hltI : ¬ (k : Int) < (n : Int) := by omega
        obtain ⟨WA, rfl⟩ : ∃ WA : World, WA = wr := ⟨_, rfl⟩
        by_cases hcq : c ≤ q
        · have hcqI : (c : Int) ≤ (q : Int) := by omega
          have hc9 : c ≤ 1000012 := by omega
          go_wp2_with fail
          go_loopw [4] (fun i wr => ∃ k : Nat, k ≤ c ∧ i = .int .i64 k ∧ Hid (Fr (fun q => base ≤ q) w wr ∧ Keeps w wr)) (fun i _ => c - (intOf i).toNat)
          case atStart => exact ⟨0, by omega, rfl, Lib.hid HI.out.2⟩
          case round =>
            obtain ⟨k2, hk2, rfl, HJ⟩ := hrel
            by_cases hlt2 : k2 < c
            · have hltJ : (k2 : Int) < (c : Int) := by omega
              go_wp2_with fail
              refine (markEdge_any 2 k2 wr (by omega) (by omega) (by omega) (by omega)).mono ?_
              rintro e w2 ⟨rfl, hg2⟩
              obtain ⟨cur', hh, hsz⟩ := (HJ.out.2.trans (Keeps.g hg2)) g _ _ HG.out
              obtain ⟨u0, c0⟩ := room_cell hh (hsz.trans HS.out) (show k2 < c by omega) (show 0 < 5 by omega)
              obtain ⟨u1, c1⟩ := room_cell hh (hsz.trans HS.out) (show k2 < c by omega) (show 1 < 5 by omega)
              obtain ⟨u2, c2⟩ := room_cell hh (hsz.trans HS.out) (show k2 < c by omega) (show 2 < 5 by omega)
              obtain ⟨u3, c3⟩ := room_cell hh (hsz.trans HS.out) (show k2 < c by omega) (show 3 < 5 by omega)
              obtain ⟨u4, c4⟩ := room_cell hh (hsz.trans HS.out) (show k2 < c by omega) (show 4 < 5 by omega)
              rw [Nat.add_zero] at c0
              have f0 := room_froz hh (k2 * 5)
              have f1 := room_froz hh (k2 * 5 + 1)
              have f2 := room_froz hh (k2 * 5 + 2)
              have f3 := room_froz hh (k2 * 5 + 3)
              have f4 := room_froz hh (k2 * 5 + 4)
              have HG2 := Lib.hid hg2
              clear hh hsz hg2
              go_wp2_with fail
              go_roundw
              case rel =>
                refine ⟨k2 + 1, by omega, by go_num, Lib.hid ⟨?_, ?_⟩⟩
                · exact (((((HJ.out.1.trans (HG2.out.fr (fun _ => False)) (fun _ _ h => h.elim)).setCell (p := ⟨g, k2 * 5, none⟩) (.inl hb) _).setCell (p := ⟨g, k2 * 5 + 1, none⟩) (.inl hb) _).setCell (p := ⟨g, k2 * 5 + 2, none⟩) (.inl hb) _).setCell (p := ⟨g, k2 * 5 + 3, none⟩) (.inl hb) _).setCell (p := ⟨g, k2 * 5 + 4, none⟩) (.inl hb) _
                · exact (((((HJ.out.2.trans (Keeps.g HG2.out)).trans (Keeps.set _ _ _)).trans (Keeps.set _ _ _)).trans (Keeps.set _ _ _)).trans (Keeps.set _ _ _)).trans (Keeps.set _ _ _)
              case measure => simp [intOf]; omega
            · have hltJ : ¬ (k2 : Int) < (c : Int) := by omega
              go_wp2_with fail
              go_returns
              exact ⟨⟨_, rfl⟩, HJ.out.1⟩
        · have hcqI : ¬ (c : Int) ≤ (q : Int) := by omega
          have hqcI : (q : Int) ≤ (c : Int) := by omega
          go_wp2_with fail
          go_loopw [4] (fun i wr => ∃ k : Nat, k ≤ q ∧ i = .int .i64 k ∧ Hid (Fr (fun q => base ≤ q) w wr ∧ Keeps w wr)) (fun i _ => q - (intOf i).toNat)
          case atStart => exact ⟨0, by omega, rfl, Lib.hid HI.out.2⟩
          case round =>
            obtain ⟨k2, hk2, rfl, HJ⟩ := hrel
            by_cases hlt2 : k2 < q
            · have hltJ : (k2 : Int) < (q : Int) := by omega
              go_wp2_with fail
              refine (markEdge_any 2 k2 wr (by omega) (by omega) (by omega) (by omega)).mono ?_
              rintro e w2 ⟨rfl, hg2⟩
              obtain ⟨cur', hh, hsz⟩ := (HJ.out.2.trans (Keeps.g hg2)) g _ _ HG.out
              obtain ⟨u0, c0⟩ := room_cell hh (hsz.trans HS.out) (show k2 < c by omega) (show 0 < 5 by omega)
              obtain ⟨u1, c1⟩ := room_cell hh (hsz.trans HS.out) (show k2 < c by omega) (show 1 < 5 by omega)
              obtain ⟨u2, c2⟩ := room_cell hh (hsz.trans HS.out) (show k2 < c by omega) (show 2 < 5 by omega)
              obtain ⟨u3, c3⟩ := room_cell hh (hsz.trans HS.out) (show k2 < c by omega) (show 3 < 5 by omega)
              obtain ⟨u4, c4⟩ := room_cell hh (hsz.trans HS.out) (show k2 < c by omega) (show 4 < 5 by omega)
              rw [Nat.add_zero] at c0
              have f0 := room_froz hh (k2 * 5)
              have f1 := room_froz hh (k2 * 5 + 1)
              have f2 := room_froz hh (k2 * 5 + 2)
              have f3 := room_froz hh (k2 * 5 + 3)
              have f4 := room_froz hh (k2 * 5 + 4)
              have HG2 := Lib.hid hg2
              clear hh hsz hg2
              go_wp2_with fail
              go_roundw
              case rel =>
                refine ⟨k2 + 1, by omega, by go_num, Lib.hid ⟨?_, ?_⟩⟩
                · exact (((((HJ.out.1.trans (HG2.out.fr (fun _ => False)) (fun _ _ h => h.elim)).setCell (p := ⟨g, k2 * 5, none⟩) (.inl hb) _).setCell (p := ⟨g, k2 * 5 + 1, none⟩) (.inl hb) _).setCell (p := ⟨g, k2 * 5 + 2, none⟩) (.inl hb) _).setCell (p := ⟨g, k2 * 5 + 3, none⟩) (.inl hb) _).setCell (p := ⟨g, k2 * 5 + 4, none⟩) (.inl hb) _
                · exact (((((HJ.out.2.trans (Keeps.g HG2.out)).trans (Keeps.set _ _ _)).trans (Keeps.set _ _ _)).trans (Keeps.set _ _ _)).trans (Keeps.set _ _ _)).trans (Keeps.set _ _ _)
              case measure => simp [intOf]; omega
            · have hltJ : ¬ (k2 : Int) < (q : Int) := by omega
              go_wp2_with fail
              go_returns
              exact ⟨⟨_, rfl⟩, HJ.out.1⟩
end Go.Proofs.Ytahdodijpmkddaa
