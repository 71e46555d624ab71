/- Rows that are read, wherever they lie. -/
import Derived.Test.YtamhlflacnldfaaDoorOwn
namespace Go.Proofs.YtamhlflacnldfaaDoor
set_option linter.unusedVariables false
open Go.RowKit
/-- the slice v has n elements of so many cells each, and reads as xs -/
def Rdr (W : World) (size : Nat) (v : Value) (n : Nat) (xs : List Value) : Prop :=
  xs.length = n * size ∧ ∃ p c, v = .slice p n c ∧ (0 < n → ∃ b o, p = some ⟨b, o, none⟩ ∧ ∀ j u, xs[j]? = some u → W.cell? ⟨b, o + j, none⟩ = some u)
theorem Rdr.nil (W : World) (size : Nat) (p : Option Addr) (c : Nat) : Rdr W size (.slice p 0 c) 0 [] := ⟨by simp, p, c, rfl, fun h => by omega⟩
theorem Rdr.fr {S : Nat → Prop} {W W' : World} {size n : Nat} {v : Value} {xs : List Value} (hr : Rdr W size v n xs) (h : Fr S W W') (hs : ∀ g, v.ownBlock = some g → ¬ S g) : Rdr W' size v n xs := by
  obtain ⟨h1, p, c, rfl, h2⟩ := hr
  refine ⟨h1, p, c, rfl, fun hn => ?_⟩
  obtain ⟨b, o, rfl, hc⟩ := h2 hn
  exact ⟨b, o, rfl, fun j u hu => h.cell (hs b rfl) (hc j u hu)⟩
theorem Rdr.g {W W' : World} {size n : Nat} {v : Value} {xs : List Value} (hr : Rdr W size v n xs) (h : G W W') : Rdr W' size v n xs := hr.fr (h.fr (fun _ => False)) (fun _ _ x => x)
theorem Rdr.alloc {W : World} {size n : Nat} {v : Value} {xs : List Value} (hr : Rdr W size v n xs) (o : Obj) : Rdr (W.alloc o) size v n xs := hr.g ((G.refl W).alloc o)
theorem Rdr.lt {W : World} {size n : Nat} {v : Value} {xs : List Value} (hr : Rdr W size v n xs) (hn : 0 < n) (hs : 0 < size) : ∀ g, v.ownBlock = some g → g < W.heap.size := by
  obtain ⟨h1, p, c, rfl, h2⟩ := hr
  obtain ⟨b, o, rfl, hc⟩ := h2 hn
  intro g hg
  cases hg
  have hpos : 0 < n * size := Nat.mul_pos hn hs
  obtain ⟨u, hu⟩ : ∃ u, xs[0]? = some u := ⟨xs[0]'(by omega), List.getElem?_eq_getElem _⟩
  exact World.block_lt_of_cell? W _ (hc 0 u hu)
theorem addr_add (b o j : Nat) : (⟨b, o, none⟩ : Addr).add j = ⟨b, o + j, none⟩ := by unfold Addr.add; split <;> simp_all
theorem rdr_of_owns {W : World} {base : Nat} {e : TypeId} {size n : Nat} {v : Value} {xs : List Value} (h : W.ownsRow base e size v n xs) : Rdr W size v n xs := by
  refine ⟨h.1, ?_⟩
  rcases h.2 with ⟨rfl, rfl⟩ | ⟨g, cap, cur, rfl, _⟩
  · exact ⟨_, _, rfl, fun h => by omega⟩
  · refine ⟨_, _, rfl, fun _ => ⟨g, 0, rfl, fun j u hu => ?_⟩⟩
    have := h.cells (g := g) rfl j u hu
    rwa [addr_add] at this
/-- one cell each -/
theorem Rdr.at {W : World} {n : Nat} {v : Value} {xs : List Value} (hr : Rdr W 1 v n xs) : ∃ p c, v = .slice p n c ∧ xs.length = n ∧ (0 < n → ∃ b o, p = some ⟨b, o, none⟩ ∧ ∀ j u, xs[j]? = some u → W.cell? ⟨b, o + j, none⟩ = some u) := by
  obtain ⟨h1, p, c, rfl, h2⟩ := hr
  exact ⟨p, c, rfl, by omega, h2⟩
theorem Rdr.one {W : World} {size n : Nat} {p : Option Addr} {c : Nat} {xs : List Value} (hr : Rdr W size (.slice p n c) n xs) (hn : 0 < n) : ∃ b o, p = some ⟨b, o, none⟩ ∧ ∀ j u, xs[j]? = some u → W.cell? ⟨b, o + j, none⟩ = some u := by
  obtain ⟨h1, p', c', hv, h2⟩ := hr
  cases hv
  exact h2 hn
theorem cell_alloc_at (w : World) (xs : List Value) (e : TypeId) (z : Nat × Nat) (j : Nat) (u : Value) (hu : xs[j]? = some u) : (w.alloc (.cells xs.toArray e z)).cell? ⟨w.heap.size, 0 + j, none⟩ = some u := by
  unfold World.cell?
  rw [alloc_new]
  simp [hu]
theorem rdr_alloc (w : World) (xs : List Value) (e : TypeId) (z : Nat × Nat) (size n c : Nat) (hl : xs.length = n * size) : Rdr (w.alloc (.cells xs.toArray e z)) size (.slice (some ⟨w.heap.size, 0, none⟩) n c) n xs :=
  ⟨hl, _, _, rfl, fun _ => ⟨_, _, rfl, cell_alloc_at w xs e z⟩⟩
/-- some blocks, one behind the other -/
def allocs (w : World) : List Obj → World
  | [] => w
  | o :: os => allocs (w.alloc o) os
theorem allocs_g (w : World) : ∀ os : List Obj, G w (allocs w os)
  | [] => G.refl w
  | o :: os => ((G.refl w).alloc o).trans (allocs_g (w.alloc o) os)
theorem allocs_size (w : World) (os : List Obj) : (allocs w os).heap.size = w.heap.size + os.length := by
  induction os generalizing w with
  | nil => rfl
  | cons o os ih => rw [allocs, ih, World.size_alloc, List.length_cons]; omega
theorem allocs_at (w : World) (os : List Obj) (i : Nat) (o : Obj) (h : os[i]? = some o) : (allocs w os).heap[w.heap.size + i]? = some o := by
  induction os generalizing w i with
  | nil => simp at h
  | cons x os ih =>
    cases i with
    | zero =>
      simp at h; subst h
      exact ((allocs_g (w.alloc x) os).block (by simp)).trans (alloc_new w x)
    | succ i =>
      have := ih (w.alloc x) i (by simpa using h)
      rw [World.size_alloc] at this
      rw [show w.heap.size + (i + 1) = w.heap.size + 1 + i by omega]
      exact this
theorem boxed_at (w : World) (os : List Obj) (i : Nat) (t : TypeId) (v : Value) (h : os[i]? = some (.cells #[v] t (0, 0))) : Boxed (allocs w os) (w.heap.size + i) t v := allocs_at w os i _ h
theorem Fr.drewN {S : Nat → Prop} {a b : World} (h : Fr S a b) (n : Nat) : Fr S a (b.drewN n) := h.trans ((G.drewN (G.refl b) n).fr S) (fun _ _ x => x)
theorem ownsRow_drewN {W : World} {base : Nat} {e : TypeId} {size : Nat} {v : Value} {k : Nat} {xs : List Value} (h : W.ownsRow base e size v k xs) (n : Nat) : (W.drewN n).ownsRow base e size v k xs := h
theorem cell_set_ne {W : World} {p q : Addr} {v u : Value} (h : W.cell? q = some u) (hne : q.block ≠ p.block) : (W.setCell p v).cell? q = some u := (World.cell?_of_block (Below.heap_setCell W p v _ hne)).trans h
theorem frozen_set {W : World} {p q : Addr} {v : Value} (h : W.frozen? q = false) : (W.setCell p v).frozen? q = false := by rw [World.frozen?_setCell]; exact h
theorem heap_setCell_at (W : World) (B j : Nat) (v : Value) (cs : Array Value) (t : TypeId) (z : Nat × Nat) (h : W.heap[B]? = some (.cells cs t z)) : (W.setCell ⟨B, j, none⟩ v).heap[B]? = some (.cells (cs.setIfInBounds j v) t z) := by
  show (W.heap.modify B _)[B]? = _
  rw [Array.getElem?_modify, h]; simp
section
variable {P : Program} (w : World)
/-- append of whatever was read to a row of one's own -/
theorem run_appendR (base : Nat) (t ty e : TypeId) (i : TypeInfo) (z : Value) (size bytes : Nat) (ht : P.underlying t = some (.slice e)) (hi : P.info? e = some i) (hz : i.zero = some z)
    (hsize : i.size = size) (hby : i.bytes = bytes) (hzs : z.cells.size = size) (hsz : 0 < size) (v : Value) (n : Nat) (xs : List Value) (hown : w.ownsRow base e size v n xs)
    (u : Value) (m : Nat) (news : List Value) (hr : Rdr w size u m news) (h1 : ∀ u ∈ news, u.oneCell' = true) (h63 : n + m ≤ maxLen) (hbytes : (n + m) * bytes ≤ 140737488355328) (hbase : base ≤ w.heap.size) :
    ∃ v' w', (Builtin.append_ #[t, t] ty #[v, u]).run P w = .ok v' w' ∧ w'.ownsRow base e size v' (n + m) (xs ++ news) ∧ w.grownBy w' v.ownBlock ∧ (∀ g, v'.ownBlock = some g → v.ownBlock = some g ∨ w.heap.size ≤ g) := by
  obtain ⟨hl, p, c, rfl, hc⟩ := hr
  cases p with
  | none =>
    have hm : m = 0 := by
      rcases Nat.eq_zero_or_pos m with h | h
      · exact h
      · obtain ⟨b, o, h, _⟩ := hc h; cases h
    subst hm
    have hn : news = [] := List.eq_nil_of_length_eq_zero (by simpa using hl)
    subst hn
    refine ⟨v, w, ?_, by simpa using hown, ⟨rfl, rfl, rfl, Nat.le_refl _, fun _ _ _ => rfl⟩, fun g hg => .inl hg⟩
    rcases hown.2 with ⟨rfl, rfl⟩ | ⟨g, cap, cur, rfl, _, _, hnc, _⟩
    · simp [Builtin.append_, run_underlying ht, sizeOf, typeInfo, hi, Builtin.lenOf, Builtin.firstCells]
    · simp [Builtin.append_, run_underlying ht, sizeOf, typeInfo, hi, Builtin.lenOf, Builtin.firstCells, hnc, storeCells]
  | some a =>
    have hcells : ∀ j u, news[j]? = some u → w.cell? (a.add j) = some u := fun j u hu => by
      rcases Nat.eq_zero_or_pos m with h | h
      · subst h
        have hn : news = [] := List.eq_nil_of_length_eq_zero (by simpa using hl)
        subst hn; simp at hu
      · obtain ⟨b, o, h, hc'⟩ := hc h
        cases h
        rw [addr_add]; exact hc' j u hu
    obtain ⟨v', w', h1', h2, h3, _, h5⟩ := run_append_own2 (P := P) w base t ty e i z size bytes ht hi hz hsize hby hzs hsz v n xs hown a m c news hl hcells h1 h63 hbytes hbase
    exact ⟨v', w', h1', h2, h3, h5⟩
/-- in the plain walk -/
theorem wpList_appendR {ops : Array Oper} {rest : List Oper} {o : Oper} {a : Act} {Q : Exit → Act → World → Prop}
    (hg : o.guard = none) (s x : Operand) (t : TypeId) (hop : o.op = Op.call { callee := Callee.builtin Builtin.append, args := #[s, x], argTypes := #[t, t] })
    (base : Nat) (e : TypeId) (i : TypeInfo) (z : Value) (size bytes : Nat) (h1 : P.underlying t = some (.slice e)) (h2 : P.info? e = some i) (h3 : i.zero = some z) (h4 : i.size = size) (h5 : i.bytes = bytes) (h6 : z.cells.size = size) (h7 : 0 < size)
    (v : Value) (k : Nat) (xs : List Value) (hs : a.eval s = v) (hown : w.ownsRow base e size v k xs) (u : Value) (m : Nat) (news : List Value) (hx : a.eval x = u) (hr : Rdr w size u m news)
    (h1c : ∀ u ∈ news, u.oneCell' = true) (b1 : k + m ≤ maxLen) (b2 : (k + m) * bytes ≤ 140737488355328) (b3 : base ≤ w.heap.size)
    (hK : ∀ p' c' w', w'.ownsRow base e size (.slice p' (k + m) c') (k + m) (xs ++ news) → w.grownBy w' v.ownBlock → (∀ g, (Value.slice p' (k + m) c').ownBlock = some g → v.ownBlock = some g ∨ w.heap.size ≤ g) → wpList P ops Q rest (a.put o.dst (.slice p' (k + m) c')) w') :
    wpList P ops Q (o :: rest) a w := by
  refine wpList_plain hg fun K hK' => ?_
  obtain ⟨v', w', hrun, r1, r2, r4⟩ := run_appendR (P := P) w base t o.type e i z size bytes h1 h2 h3 h4 h5 h6 h7 v k xs hown u m news hr h1c b1 b2 b3
  obtain ⟨p', c', rfl⟩ := ownsRow_shape r1
  unfold Oper.wp execOp
  simp only [hop, resolve, invoke, builtin, Sem.run_bind, Sem.run_pure, Result.andThen_ok, List.map_toArray, List.map_cons, List.map_nil, hs, hx, hrun]
  exact hK' _ _ (hK p' c' w' r1 r2 r4)
/-- in a round -/
theorem wpListIn_appendR {F : Fence} {nF : Nat} {ops : Array Oper} {rest : List Oper} {o : Oper} {a : Act} {Q : Exit → Act → World → Prop}
    (hg : o.guard = none) (s x : Operand) (t : TypeId) (hop : o.op = Op.call { callee := Callee.builtin Builtin.append, args := #[s, x], argTypes := #[t, t] })
    (base : Nat) (e : TypeId) (i : TypeInfo) (z : Value) (size bytes : Nat) (h1 : P.underlying t = some (.slice e)) (h2 : P.info? e = some i) (h3 : i.zero = some z) (h4 : i.size = size) (h5 : i.bytes = bytes) (h6 : z.cells.size = size) (h7 : 0 < size)
    (v : Value) (k : Nat) (xs : List Value) (hs : a.eval s = v) (hown : w.ownsRow base e size v k xs) (u : Value) (m : Nat) (news : List Value) (hx : a.eval x = u) (hr : Rdr w size u m news)
    (h1c : ∀ u ∈ news, u.oneCell' = true) (b1 : k + m ≤ maxLen) (b2 : (k + m) * bytes ≤ 140737488355328) (b3 : base ≤ w.heap.size)
    (hK : ∀ p' c' w', w'.ownsRow base e size (.slice p' (k + m) c') (k + m) (xs ++ news) → w.grownBy w' v.ownBlock → (∀ g, (Value.slice p' (k + m) c').ownBlock = some g → v.ownBlock = some g ∨ w.heap.size ≤ g) → wpListIn F nF P ops Q rest (a.put o.dst (.slice p' (k + m) c')) w') :
    wpListIn F nF P ops Q (o :: rest) a w := by
  refine wpListIn_plain hg fun K hK' => ?_
  obtain ⟨v', w', hrun, r1, r2, r4⟩ := run_appendR (P := P) w base t o.type e i z size bytes h1 h2 h3 h4 h5 h6 h7 v k xs hown u m news hr h1c b1 b2 b3
  obtain ⟨p', c', rfl⟩ := ownsRow_shape r1
  unfold Oper.wpIn
  refine ⟨?_, ?_⟩
  · simp [Oper.about, hop, resolve, Target.leads, Sem.run_pure]
  · rw [Oper.semAt_plain F _ _ (by rw [hop]; intro c hc'; cases hc')]
    simp [execOp, hop, resolve, invoke, builtin, hs, hx, hrun, Result.andThen]
    exact hK' _ _ (hK p' c' w' r1 r2 r4)
end
/-- a value that was laid for itself -/
theorem rdr_one (w : World) (xs : List Value) (e : TypeId) (z : Nat × Nat) (size : Nat) (h : xs.length = size) : Rdr (w.alloc (.cells xs.toArray e z)) size (.slice (some ⟨w.heap.size, 0, none⟩) 1 1) 1 xs := rdr_alloc w xs e z size 1 1 (by omega)
end Go.Proofs.YtamhlflacnldfaaDoor
