/- laid together: EdgeK EdgeE EdgeF -/
import Derived.Test.YthhmmjpgefinmaaEdgeB
import Derived.Laws.BytesArg
import Derived.Lib.AppendStr
import Derived.Lib.AppendZeros
import Derived.Deep.OwnRows
import Derived.Test.YthhmmjpgefinmaaEdgeD
/- bytes: lent, kept, the same -/
namespace Go.Proofs.Ythhmmjpgefinmaa
set_option linter.unusedVariables false
set_option linter.unusedSimpArgs false
open Go.RowKit Go.Shelf
attribute [local go_sem] Oper.semAt_some

def bys (l : List UInt8) : List Value := l.map (fun c => .int .u8 c.toNat)
theorem bys_get {ss : List UInt8} {k : Nat} {s : UInt8} (h : ss[k]? = some s) : (bys ss)[k]? = some (.int .u8 s.toNat) := by simp [bys, h]
theorem bys_len (ss : List UInt8) : (bys ss).length = ss.length := by simp [bys]
theorem bys_app (l m : List UInt8) : bys (l ++ m) = bys l ++ bys m := by simp [bys]
theorem bys_one (l : List UInt8) : ∀ u ∈ bys l, u.oneCell' = true := by
  intro u hu; simp only [bys, List.mem_map] at hu; obtain ⟨c, -, rfl⟩ := hu; rfl
def mB (k i : Int) : Int := IntKind.u64.wrap ((1000003 * (k + 7) + i) * 11400714819323198485) / 72057594037927936 % 256
theorem infoB : (Try.prog.info? 5).map (fun i => (i.zero, i.size, i.bytes)) = some (some (.int .u8 0), 1, 1) := by kernel_rfl
def marksB (k : Int) (n : Nat) : List Value := (List.range n).map fun i => .int .u8 (mB k ((i : Nat) : Int))
theorem marksB_succ (k : Int) (n : Nat) : marksB k (n + 1) = marksB k n ++ [.int .u8 (mB k (n : Int))] := by simp [marksB, List.range_succ]
/-- a list that is lent: with marks behind its end -/
def Lent (W : World) (base : Nat) (e : TypeId) (size : Nat) (v : Value) (n : Nat) (xs : List Value) : Prop :=
  ∃ g cap, v = .slice (some ⟨g, 0, none⟩) n cap ∧ W.ownsRow base e size (.slice (some ⟨g, 0, none⟩) (n + 12) cap) (n + 12) xs
theorem Lent.fr {S : Nat → Prop} {W W' : World} {base : Nat} {e : TypeId} {size n : Nat} {v : Value} {xs : List Value} (h : Lent W base e size v n xs) (hf : Fr S W W') (hs : ∀ g, v.ownBlock = some g → ¬ S g) : Lent W' base e size v n xs := by
  obtain ⟨g, cap, rfl, h2⟩ := h
  exact ⟨g, cap, rfl, hf.ownsRow h2 (fun g' hg => by cases hg; exact hs _ rfl)⟩
theorem Lent.lt {W : World} {base : Nat} {e : TypeId} {size n : Nat} {v : Value} {xs : List Value} (h : Lent W base e size v n xs) : ∀ g, v.ownBlock = some g → base ≤ g ∧ g < W.heap.size := by
  obtain ⟨g, cap, rfl, h2⟩ := h
  intro g' hg
  cases hg
  exact h2.lt g rfl
theorem ownsRow_take {W : World} {base : Nat} {e : TypeId} {size n m cap : Nat} {p : Option Addr} {xs : List Value} (h : W.ownsRow base e size (.slice p (n + m) cap) (n + m) xs) (hp : ∃ g, p = some ⟨g, 0, none⟩) :
    W.ownsRow base e size (.slice p n cap) n (xs.take (n * size)) := by
  obtain ⟨g, rfl⟩ := hp
  refine ⟨?_, .inr ?_⟩
  · rw [List.length_take, h.1, Nat.add_mul]; omega
  · rcases h.2 with ⟨h, _⟩ | ⟨g', cap', cur, hv, h1, h2, h3, h4, h5, h6⟩
    · cases h
    · cases hv
      refine ⟨g, cap, cur, rfl, h1, h2, by omega, h4, h5, ?_⟩
      rw [← h6, List.take_take, Nat.min_eq_left (Nat.mul_le_mul_right _ (by omega))]
theorem ownsRow_cap {W : World} {base : Nat} {e : TypeId} {size n cap : Nat} {p : Option Addr} {xs : List Value} (h : W.ownsRow base e size (.slice p n cap) n xs) : n ≤ cap := by
  rcases h.2 with ⟨h, h'⟩ | ⟨g', cap', cur, hv, h1, h2, h3, h4, h5, h6⟩
  · omega
  · cases hv; exact h3
theorem ownsRow_addr {W : World} {base : Nat} {e : TypeId} {size : Nat} {v : Value} {k : Nat} {xs : List Value} (h : W.ownsRow base e size v k xs) (hk : 0 < k) : ∃ g c, v = .slice (some ⟨g, 0, none⟩) k c := by
  rcases h.2 with ⟨rfl, rfl⟩ | ⟨g, cap, cur, rfl, _⟩
  · omega
  · exact ⟨_, _, rfl⟩
/-- what is lent reads as what it was lent of -/
theorem Lent.rdr {W : World} {base : Nat} {e : TypeId} {size n : Nat} {v : Value} {xs ms : List Value} (h : Lent W base e size v n (xs ++ ms)) (hl : xs.length = n * size) : Rdr W size v n xs := by
  obtain ⟨g, cap, rfl, h2⟩ := h
  have := rdr_of_owns (ownsRow_take (n := n) (m := 12) h2 ⟨g, rfl⟩)
  rwa [← hl, List.take_left'] at this
  rfl
theorem Lent.own {W : World} {base : Nat} {e : TypeId} {size n : Nat} {v : Value} {xs ms : List Value} (h : Lent W base e size v n (xs ++ ms)) (hl : xs.length = n * size) : W.ownsRow base e size v n xs := by
  obtain ⟨g, cap, rfl, h2⟩ := h
  have := ownsRow_take (n := n) (m := 12) h2 ⟨g, rfl⟩
  rwa [← hl, List.take_left'] at this
  rfl
theorem take_ne_of_get {α : Type} {xs ys : List α} {k : Nat} {x y : α} (hx : xs[k]? = some x) (hy : ys[k]? = some y) (hne : x ≠ y) : xs ≠ ys := by
  rintro rfl; rw [hx] at hy; exact hne (by simpa using hy)
/-- the loop of the tests whether two lists are one -/
theorem take_step {α : Type} {xs ys : List α} {k : Nat} {x y : α} (h : xs.take k = ys.take k) (hx : xs[k]? = some x) (hy : ys[k]? = some y) (e : x = y) : xs.take (k + 1) = ys.take (k + 1) := by
  rw [List.take_add_one, List.take_add_one, h, hx, hy, e]
theorem take_all {α : Type} {xs ys : List α} {n k : Nat} (h : xs.take k = ys.take k) (hx : n = xs.length) (hy : n = ys.length) (hk : n ≤ k) : xs = ys := by
  rwa [List.take_of_length_le (by omega), List.take_of_length_le (by omega)] at h

end Go.Proofs.Ythhmmjpgefinmaa

/- edges: texts and numbers as bytes, rows of bytes one behind the other -/
namespace Go.Proofs.Ythhmmjpgefinmaa
set_option linter.unusedVariables false
set_option linter.unusedSimpArgs false
open Go.RowKit Go.Shelf
attribute [local go_sem] Oper.semAt_some

theorem owns_lit (w : World) (e : TypeId) (xs : List Value) (n : Nat) (hl : xs.length = n) (hn : n ≤ 1099511627776) : (w.alloc (.cells xs.toArray e (0, 0))).ownsRow w.heap.size e 1 (.slice (some ⟨w.heap.size, 0, none⟩) n n) n xs :=
  ⟨by omega, .inr ⟨w.heap.size, n, _, rfl, Nat.le_refl _, alloc_new w _, Nat.le_refl _, by unfold maxLen; omega, by simp [hl], by simp [← hl]⟩⟩
def b8 (x : Int) : UInt8 := UInt8.ofNat (x % 256).toNat
theorem b8_int (x : Int) : ((b8 x).toNat : Int) = x % 256 := by
  unfold b8
  rw [UInt8.toNat_ofNat']
  omega
def textB (s : ByteArray) : List UInt8 := UInt8.ofNat s.size :: s.data.toList
theorem textB_len (s : ByteArray) : (textB s).length = 1 + s.size := by simp [textB]; omega
theorem strCells_bys (s : ByteArray) : Lib.strCells s = bys s.data.toList := rfl
theorem textB_bys (s : ByteArray) : bys (textB s) = [.int .u8 ((s.size : Int) % 256)] ++ bys s.data.toList := by
  simp only [textB, bys, List.map_cons, List.singleton_append]
  congr 2
def numB (n : Int) : List UInt8 := [b8 (n / 1099511627776), b8 (n / 4294967296), b8 (n / 16777216), b8 (n / 65536), b8 (n / 256), b8 n]
theorem numB_bys (n : Int) : bys (numB n) = [.int .u8 (n / 1099511627776 % 256), .int .u8 (n / 4294967296 % 256), .int .u8 (n / 16777216 % 256), .int .u8 (n / 65536 % 256), .int .u8 (n / 256 % 256), .int .u8 (n % 256)] := by
  simp only [numB, bys, List.map_cons, List.map_nil, b8_int]

theorem made6 : (madeCells #[Value.int .u8 0] 6) = #[.int .u8 0, .int .u8 0, .int .u8 0, .int .u8 0, .int .u8 0, .int .u8 0] := by kernel_rfl
theorem owns_zero (w : World) (e : TypeId) (cs : Array Value) (c : Nat) (hl : cs.size = c) (hc : c ≤ maxLen) : (w.alloc (.cells cs e (0, 0))).ownsRow w.heap.size e 1 (.slice (some ⟨w.heap.size, 0, none⟩) 0 c) 0 [] :=
  ⟨rfl, .inr ⟨w.heap.size, c, _, rfl, Nat.le_refl _, alloc_new w _, Nat.zero_le _, hc, by omega, rfl⟩⟩
/-- rows of bytes -/
def RowsB (W : World) (v : Value) (bss : List (List UInt8)) : Prop :=
  ∃ vs : List Value, vs.length = bss.length ∧ Rdr W 1 v bss.length vs ∧ ∀ (k : Nat) u bs, vs[k]? = some u → bss[k]? = some bs → Rdr W 1 u bs.length (bys bs)
theorem RowsB.g {W W' : World} {v : Value} {bss : List (List UInt8)} (h : RowsB W v bss) (hg : G W W') : RowsB W' v bss := by
  obtain ⟨vs, h1, h2, h3⟩ := h
  exact ⟨vs, h1, h2.g hg, fun k u bs a b => (h3 k u bs a b).g hg⟩
def tot (bss : List (List UInt8)) : Nat := (bss.map List.length).sum
theorem tot_take (bss : List (List UInt8)) (k : Nat) (bs : List UInt8) (h : bss[k]? = some bs) : tot (bss.take (k + 1)) = tot (bss.take k) + bs.length := by
  unfold tot
  rw [List.take_add_one, h]; simp
theorem tot_le (bss : List (List UInt8)) (k : Nat) : tot (bss.take k) ≤ tot bss := by
  have : bss = bss.take k ++ bss.drop k := (List.take_append_drop k bss).symm
  have h2 : tot bss = tot (bss.take k) + tot (bss.drop k) := by
    conv => lhs; rw [this]
    unfold tot; rw [List.map_append, List.sum_append]
  omega
theorem flat_take (bss : List (List UInt8)) (k : Nat) (bs : List UInt8) (h : bss[k]? = some bs) : (bss.take (k + 1)).flatten = (bss.take k).flatten ++ bs := by
  rw [List.take_add_one, h]; simp
theorem tot_flat (bss : List (List UInt8)) : bss.flatten.length = tot bss := by unfold tot; rw [List.length_flatten]

end Go.Proofs.Ythhmmjpgefinmaa

/- edges: an edge as bytes -/
namespace Go.Proofs.Ythhmmjpgefinmaa
set_option linter.unusedVariables false
set_option linter.unusedSimpArgs false
open Go.RowKit Go.Shelf
attribute [local go_sem] Oper.semAt_some

theorem opR_of {P : Program} {ops : Array Oper} {Q : Exit → Act → World → Prop} {K : Act → World → Prop} {i : Nat} {oi : Oper} {a : Act} {w : World} (hi : ops[i]? = some oi) (h : wpList P ops (hlK K Q) [oi] a w) : opR P ops Q i K a w := by
  unfold opR
  simp only [hi]
  simp only [wpList] at h
  split <;> rename_i hw
  · rw [if_pos hw] at h
    rcases h with h | ⟨-, h⟩
    · refine wp_leave (Q := hlK K Q) (fun _ _ _ h => h) (fun h => ?_) (wp_mono_op (fun _ _ h => h) h)
      simp [LetsOut, hlK] at h
    · simp [LetsOut, hlK] at h
  · rw [if_neg hw] at h; exact h
/-- two that may come up, either one ahead -/
theorem hl_two {P : Program} {md : Region.Mode} {os : List Oper} {Q : Exit → Act → World → Prop} {S : World → Prop} {t : Nat} (i j : Nat) {oi oj : Oper} {fuel : Nat} {listed : Array Bool} {a : Act} {w : World}
    (hr : Region.ready md os.toArray listed = [i, j]) (hi : nth os i = some oi) (hj : nth os j = some oj)
    (h1 : wpList P os.toArray (hlK (fun a' w' => (i ≠ t → S w') ∧ hl P md os.toArray Q S t fuel (listed.setIfInBounds i true) a' w') Q) [oi] a w)
    (h2 : wpList P os.toArray (hlK (fun a' w' => (j ≠ t → S w') ∧ hl P md os.toArray Q S t fuel (listed.setIfInBounds j true) a' w') Q) [oj] a w) : hl P md os.toArray Q S t (fuel + 1) listed a w := by
  refine ⟨(fun h0 => by rw [hr] at h0; cases h0), fun k hk => ?_⟩
  rw [hr] at hk
  simp only [List.mem_cons, List.not_mem_nil, or_false] at hk
  rcases hk with rfl | rfl
  · exact opR_of (nth_at hi) h1
  · exact opR_of (nth_at hj) h2

/-- .. what follows stands behind a letter -/
theorem hl_twoW {P : Program} {md : Region.Mode} {os : List Oper} {Q : Exit → Act → World → Prop} {S : World → Prop} {t : Nat} (i j : Nat) {oi oj : Oper} {fuel : Nat} {listed : Array Bool} {a : Act} {w : World}
    (hr : Region.ready md os.toArray listed = [i, j]) (hi : nth os i = some oi) (hj : nth os j = some oj) (hwi : Region.wanted oi (yielded os.toArray a.tmps) = true) (hwj : Region.wanted oj (yielded os.toArray a.tmps) = true)
    (h1 : ∀ K : Act → World → Prop, (∀ a' w', (i ≠ t → S w') → hl P md os.toArray Q S t fuel (listed.setIfInBounds i true) a' w' → K a' w') → oi.wp P a w K Q)
    (h2 : ∀ K : Act → World → Prop, (∀ a' w', (j ≠ t → S w') → hl P md os.toArray Q S t fuel (listed.setIfInBounds j true) a' w' → K a' w') → oj.wp P a w K Q) : hl P md os.toArray Q S t (fuel + 1) listed a w := by
  refine ⟨(fun h0 => by rw [hr] at h0; cases h0), fun k hk => ?_⟩
  rw [hr] at hk
  simp only [List.mem_cons, List.not_mem_nil, or_false] at hk
  rcases hk with rfl | rfl
  · unfold opR
    simp only [nth_at hi, if_pos hwi]
    exact h1 _ fun a' w' hS hL => ⟨hS, hL⟩
  · unfold opR
    simp only [nth_at hj, if_pos hwj]
    exact h2 _ fun a' w' hS hL => ⟨hS, hL⟩

/-- a region whose end stands behind a letter -/
theorem region_hlW {P : Program} {ops : Array Oper} {Q : Exit → Act → World → Prop} (S : World → Prop) (t n : Nat) {id : Nat} {a : Act} {w : World} (hm : P.follows .mixedOrders = true) (hn : ops.size = n)
    (h : ∀ Q0 : Exit → Act → World → Prop, Hid (∀ a' w', Q .normal a' w' → Q0 .normal a' w') → hl P .any ops (NoPanic Q0) S t n (List.replicate n false).toArray a w.drew) : (Code.region id ops true).wp P Q a w :=
  region_hl S t n hm hn (h Q (Lib.hid (fun _ _ h => h)))

def propE (p : Prp) : List UInt8 := textB p.1 ++ [b8 p.2.1] ++ (if p.2.1 = 1 then numB (p.2.2.1 + 1099511627776) else textB p.2.2.2)
def headE (f t l : ByteArray) (tm : Int) (n : Nat) : List UInt8 := textB f ++ textB t ++ textB l ++ numB tm ++ [UInt8.ofNat n]
def putB (f t l : ByteArray) (tm : Int) (ps : List Prp) : List UInt8 := headE f t l tm ps.length ++ (ps.map propE).flatten
def putP (f t l : ByteArray) (tm : Int) (ps : List Prp) : List UInt8 := if checkP f t l tm ps = 0 then putB f t l tm ps else []
def putE (E : Edg) : List UInt8 := putP E.f E.t E.l E.tm E.ps
theorem vertex_size {s : ByteArray} (h : vertexB s = true) : s.size ≤ 20 := by
  simp only [vertexB, Bool.and_eq_true, decide_eq_true_eq] at h; exact h.1.2
theorem free_size {s : ByteArray} (h : freeB s = true) : s.size ≤ 20 := by
  simp only [freeB, Bool.and_eq_true] at h; exact vertex_size h.1.1
theorem right_size {v : Val} (h : rightV v = true) : v.2.2.size ≤ 40 ∧ (v.1 = 1 → -1099511627776 ≤ v.2.1 ∧ v.2.1 ≤ 1099511627776) ∧ (v.1 = 1 ∨ v.1 = 2) := by
  unfold rightV at h
  split at h
  · rename_i h1
    simp only [numR, Bool.and_eq_true, decide_eq_true_eq] at h
    exact ⟨by omega, fun _ => h.2, .inl h1⟩
  · split at h
    · rename_i h1 h2
      simp only [Bool.and_eq_true, decide_eq_true_eq] at h
      exact ⟨h.1.2, fun e => absurd e h1, .inr h2⟩
    · cases h
theorem ris_mem : ∀ {last : ByteArray} {ps : List Prp}, risB last ps = true → ∀ p ∈ ps, freeB p.1 = true ∧ rightV p.2 = true
  | _, [], _, p, h => by cases h
  | last, q :: ps, hr, p, h => by
    simp only [risB, Bool.and_eq_true] at hr
    rcases List.mem_cons.1 h with rfl | h
    · exact ⟨hr.1.1.2, hr.1.2⟩
    · exact ris_mem hr.2 p h
theorem check_ok {f t l : ByteArray} {tm : Int} {ps : List Prp} (h : checkP f t l tm ps = 0) : vertexB f = true ∧ vertexB t = true ∧ freeB l = true ∧ risB ⟨#[]⟩ ps = true ∧ ps.length ≤ 8 ∧ timeB tm = true := by
  unfold checkP at h
  split at h
  · rename_i h1
    split at h
    · rename_i h2
      simp only [propsB, Bool.and_eq_true, decide_eq_true_eq] at h1
      exact ⟨h1.1.1.1, h1.1.1.2, h1.1.2, h1.2.1, h1.2.2, h2⟩
    · cases h
  · cases h
theorem propE_len {p : Prp} (h1 : p.1.size ≤ 20) (h2 : p.2.2.2.size ≤ 40) : (propE p).length ≤ 100 := by
  unfold propE
  rw [List.length_append, List.length_append, textB_len]
  split
  · simp [numB]; omega
  · rw [textB_len]; simp; omega
theorem props_len : ∀ {ps : List Prp}, (∀ p ∈ ps, p.1.size ≤ 20 ∧ p.2.2.2.size ≤ 40) → ((ps.map propE).flatten).length ≤ 100 * ps.length
  | [], _ => by simp
  | p :: ps, h => by
    have h1 := propE_len (h p (by simp)).1 (h p (by simp)).2
    have h2 := props_len (ps := ps) (fun q hq => h q (by simp [hq]))
    simp only [List.map_cons, List.flatten_cons, List.length_append, List.length_cons]
    omega
theorem rowsB_one {W : World} {v : Value} {vs : List Value} {bss : List (List UInt8)} (h : Rdr W 1 v bss.length vs) (hl : vs.length = bss.length) (ha : ∀ (k : Nat) u bs, vs[k]? = some u → bss[k]? = some bs → Rdr W 1 u bs.length (bys bs)) : RowsB W v bss := ⟨vs, hl, h, ha⟩

def accE (f t l : ByteArray) (tm : Int) (n : Nat) (ps : List Prp) (k : Nat) : List UInt8 := headE f t l tm n ++ ((ps.take k).map propE).flatten
theorem accE_zero (f t l : ByteArray) (tm : Int) (n : Nat) (ps : List Prp) : accE f t l tm n ps 0 = headE f t l tm n := by simp [accE]
theorem accE_succ (f t l : ByteArray) (tm : Int) (n : Nat) {ps : List Prp} {k : Nat} {x : Prp} (h : ps[k]? = some x) : accE f t l tm n ps (k + 1) = accE f t l tm n ps k ++ propE x := by
  unfold accE; rw [List.take_add_one, h]; simp
theorem accE_len {f t l : ByteArray} {tm : Int} {n : Nat} {ps : List Prp} {k : Nat} (hf : f.size ≤ 20) (ht : t.size ≤ 20) (hl : l.size ≤ 20) (hk : k ≤ 8) (h : ∀ p ∈ ps, p.1.size ≤ 20 ∧ p.2.2.2.size ≤ 40) : (accE f t l tm n ps k).length ≤ 1000 := by
  have h1 := props_len (ps := ps.take k) (fun p hp => h p (List.mem_of_mem_take hp))
  have h2 : (ps.take k).length ≤ k := by rw [List.length_take]; omega
  unfold accE headE
  simp only [List.length_append, textB_len, numB, List.length_cons, List.length_nil]
  omega
theorem bys_w (k : Int) : bys [b8 k] = [.int .u8 (IntKind.u8.wrap k)] := by simp only [bys, List.map_cons, List.map_nil, b8_int, IntKind.wrap_u8]
theorem bys_n (n : Nat) : bys [UInt8.ofNat n] = [.int .u8 (IntKind.u8.wrap (n : Int))] := by simp only [bys, List.map_cons, List.map_nil, UInt8.toNat_ofNat']; rw [IntKind.wrap_u8]; congr 2
theorem headE_flat (f t l : ByteArray) (tm : Int) (n : Nat) : [textB f, textB t, textB l, numB tm, [UInt8.ofNat n]].flatten = headE f t l tm n := by simp [headE]
theorem headE_tot (f t l : ByteArray) (tm : Int) (n : Nat) : tot [textB f, textB t, textB l, numB tm, [UInt8.ofNat n]] = (headE f t l tm n).length := by rw [← tot_flat, headE_flat]
end Go.Proofs.Ythhmmjpgefinmaa
