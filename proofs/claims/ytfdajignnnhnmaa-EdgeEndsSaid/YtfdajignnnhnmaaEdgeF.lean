/- edges: an edge as bytes -/
import Derived.Test.YtfdajignnnhnmaaEdgeE
import Derived.Test.YtfdajignnnhnmaaEdgeD
namespace Go.Proofs.Ytfdajignnnhnmaa
set_option linter.unusedVariables false
set_option linter.unusedSimpArgs false
open Go.RowKit Go.Shelf
attribute [local go_sem] Oper.semAt_some

theorem opR_of {P : Program} {ops : Array Oper} {Q : Exit → Act → World → Prop} {K : Act → World → Prop} {i : Nat} {oi : Oper} {a : Act} {w : World} (hi : ops[i]? = some oi) (h : wpList P ops (hlK K Q) [oi] a w) : opR P ops Q i K a w := by
  unfold opR
  simp only [hi]
  simp only [wpList] at h
  split <;> rename_i hw
  · rw [if_pos hw] at h
    rcases h with h | ⟨-, h⟩
    · refine wp_leave (Q := hlK K Q) (fun _ _ _ h => h) (fun h => ?_) (wp_mono_op (fun _ _ h => h) h)
      simp [LetsOut, hlK] at h
    · simp [LetsOut, hlK] at h
  · rw [if_neg hw] at h; exact h
/-- two that may come up, either one ahead -/
theorem hl_two {P : Program} {md : Region.Mode} {os : List Oper} {Q : Exit → Act → World → Prop} {S : World → Prop} {t : Nat} (i j : Nat) {oi oj : Oper} {fuel : Nat} {listed : Array Bool} {a : Act} {w : World}
    (hr : Region.ready md os.toArray listed = [i, j]) (hi : nth os i = some oi) (hj : nth os j = some oj)
    (h1 : wpList P os.toArray (hlK (fun a' w' => (i ≠ t → S w') ∧ hl P md os.toArray Q S t fuel (listed.setIfInBounds i true) a' w') Q) [oi] a w)
    (h2 : wpList P os.toArray (hlK (fun a' w' => (j ≠ t → S w') ∧ hl P md os.toArray Q S t fuel (listed.setIfInBounds j true) a' w') Q) [oj] a w) : hl P md os.toArray Q S t (fuel + 1) listed a w := by
  refine ⟨(fun h0 => by rw [hr] at h0; cases h0), fun k hk => ?_⟩
  rw [hr] at hk
  simp only [List.mem_cons, List.not_mem_nil, or_false] at hk
  rcases hk with rfl | rfl
  · exact opR_of (nth_at hi) h1
  · exact opR_of (nth_at hj) h2

/-- .. what follows stands behind a letter -/
theorem hl_twoW {P : Program} {md : Region.Mode} {os : List Oper} {Q : Exit → Act → World → Prop} {S : World → Prop} {t : Nat} (i j : Nat) {oi oj : Oper} {fuel : Nat} {listed : Array Bool} {a : Act} {w : World}
    (hr : Region.ready md os.toArray listed = [i, j]) (hi : nth os i = some oi) (hj : nth os j = some oj) (hwi : Region.wanted oi (yielded os.toArray a.tmps) = true) (hwj : Region.wanted oj (yielded os.toArray a.tmps) = true)
    (h1 : ∀ K : Act → World → Prop, (∀ a' w', (i ≠ t → S w') → hl P md os.toArray Q S t fuel (listed.setIfInBounds i true) a' w' → K a' w') → oi.wp P a w K Q)
    (h2 : ∀ K : Act → World → Prop, (∀ a' w', (j ≠ t → S w') → hl P md os.toArray Q S t fuel (listed.setIfInBounds j true) a' w' → K a' w') → oj.wp P a w K Q) : hl P md os.toArray Q S t (fuel + 1) listed a w := by
  refine ⟨(fun h0 => by rw [hr] at h0; cases h0), fun k hk => ?_⟩
  rw [hr] at hk
  simp only [List.mem_cons, List.not_mem_nil, or_false] at hk
  rcases hk with rfl | rfl
  · unfold opR
    simp only [nth_at hi, if_pos hwi]
    exact h1 _ fun a' w' hS hL => ⟨hS, hL⟩
  · unfold opR
    simp only [nth_at hj, if_pos hwj]
    exact h2 _ fun a' w' hS hL => ⟨hS, hL⟩

/-- a region whose end stands behind a letter -/
theorem region_hlW {P : Program} {ops : Array Oper} {Q : Exit → Act → World → Prop} (S : World → Prop) (t n : Nat) {id : Nat} {a : Act} {w : World} (hm : P.follows .mixedOrders = true) (hn : ops.size = n)
    (h : ∀ Q0 : Exit → Act → World → Prop, Hid (∀ a' w', Q .normal a' w' → Q0 .normal a' w') → hl P .any ops (NoPanic Q0) S t n (List.replicate n false).toArray a w.drew) : (Code.region id ops true).wp P Q a w :=
  region_hl S t n hm hn (h Q (Lib.hid (fun _ _ h => h)))

def propE (p : Prp) : List UInt8 := textB p.1 ++ [b8 p.2.1] ++ (if p.2.1 = 1 then numB (p.2.2.1 + 1099511627776) else textB p.2.2.2)
def headE (f t l : ByteArray) (tm : Int) (n : Nat) : List UInt8 := textB f ++ textB t ++ textB l ++ numB tm ++ [UInt8.ofNat n]
def putB (f t l : ByteArray) (tm : Int) (ps : List Prp) : List UInt8 := headE f t l tm ps.length ++ (ps.map propE).flatten
def putP (f t l : ByteArray) (tm : Int) (ps : List Prp) : List UInt8 := if checkP f t l tm ps = 0 then putB f t l tm ps else []
def putE (E : Edg) : List UInt8 := putP E.f E.t E.l E.tm E.ps
theorem vertex_size {s : ByteArray} (h : vertexB s = true) : s.size ≤ 20 := by
  simp only [vertexB, Bool.and_eq_true, decide_eq_true_eq] at h; exact h.1.2
theorem free_size {s : ByteArray} (h : freeB s = true) : s.size ≤ 20 := by
  simp only [freeB, Bool.and_eq_true] at h; exact vertex_size h.1.1
theorem right_size {v : Val} (h : rightV v = true) : v.2.2.size ≤ 40 ∧ (v.1 = 1 → -1099511627776 ≤ v.2.1 ∧ v.2.1 ≤ 1099511627776) ∧ (v.1 = 1 ∨ v.1 = 2) := by
  unfold rightV at h
  split at h
  · rename_i h1
    simp only [numR, Bool.and_eq_true, decide_eq_true_eq] at h
    exact ⟨by omega, fun _ => h.2, .inl h1⟩
  · split at h
    · rename_i h1 h2
      simp only [Bool.and_eq_true, decide_eq_true_eq] at h
      exact ⟨h.1.2, fun e => absurd e h1, .inr h2⟩
    · cases h
theorem ris_mem : ∀ {last : ByteArray} {ps : List Prp}, risB last ps = true → ∀ p ∈ ps, freeB p.1 = true ∧ rightV p.2 = true
  | _, [], _, p, h => by cases h
  | last, q :: ps, hr, p, h => by
    simp only [risB, Bool.and_eq_true] at hr
    rcases List.mem_cons.1 h with rfl | h
    · exact ⟨hr.1.1.2, hr.1.2⟩
    · exact ris_mem hr.2 p h
theorem check_ok {f t l : ByteArray} {tm : Int} {ps : List Prp} (h : checkP f t l tm ps = 0) : vertexB f = true ∧ vertexB t = true ∧ freeB l = true ∧ risB ⟨#[]⟩ ps = true ∧ ps.length ≤ 8 ∧ timeB tm = true := by
  unfold checkP at h
  split at h
  · rename_i h1
    split at h
    · rename_i h2
      simp only [propsB, Bool.and_eq_true, decide_eq_true_eq] at h1
      exact ⟨h1.1.1.1, h1.1.1.2, h1.1.2, h1.2.1, h1.2.2, h2⟩
    · cases h
  · cases h
theorem propE_len {p : Prp} (h1 : p.1.size ≤ 20) (h2 : p.2.2.2.size ≤ 40) : (propE p).length ≤ 100 := by
  unfold propE
  rw [List.length_append, List.length_append, textB_len]
  split
  · simp [numB]; omega
  · rw [textB_len]; simp; omega
theorem props_len : ∀ {ps : List Prp}, (∀ p ∈ ps, p.1.size ≤ 20 ∧ p.2.2.2.size ≤ 40) → ((ps.map propE).flatten).length ≤ 100 * ps.length
  | [], _ => by simp
  | p :: ps, h => by
    have h1 := propE_len (h p (by simp)).1 (h p (by simp)).2
    have h2 := props_len (ps := ps) (fun q hq => h q (by simp [hq]))
    simp only [List.map_cons, List.flatten_cons, List.length_append, List.length_cons]
    omega
theorem rowsB_one {W : World} {v : Value} {vs : List Value} {bss : List (List UInt8)} (h : Rdr W 1 v bss.length vs) (hl : vs.length = bss.length) (ha : ∀ (k : Nat) u bs, vs[k]? = some u → bss[k]? = some bs → Rdr W 1 u bs.length (bys bs)) : RowsB W v bss := ⟨vs, hl, h, ha⟩

def accE (f t l : ByteArray) (tm : Int) (n : Nat) (ps : List Prp) (k : Nat) : List UInt8 := headE f t l tm n ++ ((ps.take k).map propE).flatten
theorem accE_zero (f t l : ByteArray) (tm : Int) (n : Nat) (ps : List Prp) : accE f t l tm n ps 0 = headE f t l tm n := by simp [accE]
theorem accE_succ (f t l : ByteArray) (tm : Int) (n : Nat) {ps : List Prp} {k : Nat} {x : Prp} (h : ps[k]? = some x) : accE f t l tm n ps (k + 1) = accE f t l tm n ps k ++ propE x := by
  unfold accE; rw [List.take_add_one, h]; simp
theorem accE_len {f t l : ByteArray} {tm : Int} {n : Nat} {ps : List Prp} {k : Nat} (hf : f.size ≤ 20) (ht : t.size ≤ 20) (hl : l.size ≤ 20) (hk : k ≤ 8) (h : ∀ p ∈ ps, p.1.size ≤ 20 ∧ p.2.2.2.size ≤ 40) : (accE f t l tm n ps k).length ≤ 1000 := by
  have h1 := props_len (ps := ps.take k) (fun p hp => h p (List.mem_of_mem_take hp))
  have h2 : (ps.take k).length ≤ k := by rw [List.length_take]; omega
  unfold accE headE
  simp only [List.length_append, textB_len, numB, List.length_cons, List.length_nil]
  omega
theorem bys_w (k : Int) : bys [b8 k] = [.int .u8 (IntKind.u8.wrap k)] := by simp only [bys, List.map_cons, List.map_nil, b8_int, IntKind.wrap_u8]
theorem bys_n (n : Nat) : bys [UInt8.ofNat n] = [.int .u8 (IntKind.u8.wrap (n : Int))] := by simp only [bys, List.map_cons, List.map_nil, UInt8.toNat_ofNat']; rw [IntKind.wrap_u8]; congr 2
theorem headE_flat (f t l : ByteArray) (tm : Int) (n : Nat) : [textB f, textB t, textB l, numB tm, [UInt8.ofNat n]].flatten = headE f t l tm n := by simp [headE]
theorem headE_tot (f t l : ByteArray) (tm : Int) (n : Nat) : tot [textB f, textB t, textB l, numB tm, [UInt8.ofNat n]] = (headE f t l tm n).length := by rw [← tot_flat, headE_flat]
set_option maxRecDepth 10000 in
set_option maxHeartbeats 16000000 in
theorem put_any (E : Edg) (w : World) (h : EdgAt w E) : Calls Try.prog 16 #[ev E] w fun e w' => ∃ v, e = .returned (.tuple #[v, .int .i64 (checkE E)]) ∧ w'.ownsRow w.heap.size 5 1 v (putE E).length (bys (putE E)) ∧ G w w' := by
  obtain ⟨i0, hi, hz0, hz1, hz2⟩ := info_parts infoB
  obtain ⟨f, t, l, tm, v, ps⟩ := E
  obtain ⟨-, vp, vc, hvv, -⟩ := id h.rdr
  simp only at hvv
  subst hvv
  have hAT := h
  obtain ⟨hr, hn, hz, hf, ht, hl⟩ := h
  simp only at hr hn hz hf ht hl
  obtain ⟨n, hnn⟩ : ∃ n, n = ps.length := ⟨_, rfl⟩
  have HN := Lib.hid hnn
  obtain ⟨c, hcc⟩ : ∃ c, c = checkP f t l tm ps := ⟨_, rfl⟩
  have HPUT : Hid (putE ⟨f, t, l, tm, .slice vp ps.length vc, ps⟩ = if c = 0 then putB f t l tm ps else []) := Lib.hid (by rw [hcc]; rfl)
  have HC : Hid (checkE ⟨f, t, l, tm, .slice vp ps.length vc, ps⟩ = c) := Lib.hid (by rw [hcc]; rfl)
  have HCK := Lib.hid (check_any ⟨f, t, l, tm, .slice vp ps.length vc, ps⟩ (w.alloc (.cells #[.string f, .string t, .string l, .int .i64 tm, .slice vp n vc] 27)) (hAT.g ((G.refl w).alloc _)))
  rw [HC.out] at HCK
  unfold ev at HCK
  simp only at HCK
  unfold ev
  simp only
  rw [HC.out]
  rw [← hnn] at hr hn HPUT HCK ⊢
  have HR := Lib.hid hr
  have hgA : G w (w.alloc (.cells #[.string f, .string t, .string l, .int .i64 tm, .slice vp n vc] 27)) := (G.refl w).alloc _
  have d0 := cell_alloc_at w [.string f, .string t, .string l, .int .i64 tm, .slice vp n vc] 27 (0, 0) 0 _ rfl
  have d1 := cell_alloc_at w [.string f, .string t, .string l, .int .i64 tm, .slice vp n vc] 27 (0, 0) 1 _ rfl
  have d2 := cell_alloc_at w [.string f, .string t, .string l, .int .i64 tm, .slice vp n vc] 27 (0, 0) 2 _ rfl
  have d3 := cell_alloc_at w [.string f, .string t, .string l, .int .i64 tm, .slice vp n vc] 27 (0, 0) 3 _ rfl
  have d4 := cell_alloc_at w [.string f, .string t, .string l, .int .i64 tm, .slice vp n vc] 27 (0, 0) 4 _ rfl
  simp only [Nat.zero_add] at d0 d1 d2 d3 d4
  clear hnn hr hz hAT HC
  go_enter Try.func16, Try.ntmps16
  go_upto_region 1 with fail
  go_wp2_with fail
  refine HCK.out.mono ?_
  rintro e W0 ⟨rfl, hgx⟩
  have hg0 := hgA.trans hgx
  have c0 := hgx.cell d0
  have c1 := hgx.cell d1
  have c2 := hgx.cell d2
  have c3 := hgx.cell d3
  have c4 := hgx.cell d4
  clear HCK hgx hgA
  by_cases hc0 : c = 0
  · subst hc0
    obtain ⟨o1, o2, o3, o4, o5, o6⟩ := check_ok hcc.symm
    rw [if_pos rfl] at HPUT
    have hf2 := vertex_size o1
    have ht2 := vertex_size o2
    have hl2 := free_size o3
    have HM := Lib.hid (fun p hp => (⟨free_size (ris_mem o4 p hp).1, right_size (ris_mem o4 p hp).2⟩ : p.1.size ≤ 20 ∧ _))
    have hn8 : n ≤ 8 := by rw [HN.out]; exact o5
    have htm : 0 ≤ tm ∧ tm ≤ 1099511627776 := by simpa [timeB] using o6
    obtain ⟨ht0, ht1⟩ := htm
    clear o1 o2 o3 o4 o5 o6 hcc hf ht hl hn
    go_upto_region 4 with fail
    obtain ⟨Q0, hQ0⟩ : ∃ Q0 : Exit → Act → World → Prop, Q0 = (fun e a' w' => ∃ x0 x4 x6 x7 x8 x9 x10 x11 x12 x13 x14 x15 x16 x17 x18 x19 x20 x21 x22 x23 x24 x25 x26 x27 x28 x29 x30 x31 x32 x33 x34 x35 x36 x37 x38 x39 x40 x41 x42 x43 x44 x45 x46 x47 x48 x49 x50 x51 x52 x53 x54 x55 x56 x57 x58 x59 x60 x61 x62 x63 x64 x65 x66 v : Value, ∃ _ : True, e = .normal ∧ a' = { tmps := (x0 :: .pointer (some ⟨w.heap.size, 0, none⟩) :: .slice none 0 0 :: .int .i64 0 :: x4 :: v :: x6 :: x7 :: x8 :: x9 :: x10 :: x11 :: x12 :: x13 :: x14 :: x15 :: x16 :: x17 :: x18 :: x19 :: x20 :: x21 :: x22 :: x23 :: x24 :: x25 :: x26 :: x27 :: x28 :: x29 :: x30 :: x31 :: x32 :: x33 :: x34 :: x35 :: x36 :: x37 :: x38 :: x39 :: x40 :: x41 :: x42 :: x43 :: x44 :: x45 :: x46 :: x47 :: x48 :: x49 :: x50 :: x51 :: x52 :: x53 :: x54 :: x55 :: x56 :: x57 :: x58 :: x59 :: x60 :: x61 :: x62 :: x63 :: x64 :: x65 :: x66 :: []).toArray, defers := [] } ∧ w'.ownsRow W0.heap.size 5 1 v (headE f t l tm n).length (bys (headE f t l tm n)) ∧ G W0 w') := ⟨_, rfl⟩
    have HQ0 := Lib.hid hQ0
    clear hQ0
    refine wp_mono (Q := Q0) ?_ ?_
    · refine region_hl (fun w' => G W0 w') 99 20 (by kernel_rfl) rfl ?_
      simp only [List.replicate_succ, List.replicate_zero]
      have hs0 : G W0 W0.drew := (G.refl W0).drew
      obtain ⟨WD, hWD⟩ : ∃ WD : World, WD = W0.drew := ⟨_, rfl⟩
      rw [← hWD] at hs0 ⊢
      clear hWD
      refine hl_take_np 0 (by kernel_rfl) (by kernel_rfl) rfl (by kernel_rfl) hs0 (v := ?_) ?_ ?_
      rotate_left
      · (rintro x hx; have k1 := hx.cell c0; have k2 := hx.cell c1; have k3 := hx.cell c2; have k4 := hx.cell c3; have k5 := hx.cell c4; clear hx; go_simp; try rfl)
      simp only [Act.put, List.setIfInBounds_toArray, List.set_cons_zero, List.set_cons_succ]
      refine hl_take_np 1 (by kernel_rfl) (by kernel_rfl) rfl (by kernel_rfl) hs0 (v := ?_) ?_ ?_
      rotate_left
      · (rintro x hx; have k1 := hx.cell c0; have k2 := hx.cell c1; have k3 := hx.cell c2; have k4 := hx.cell c3; have k5 := hx.cell c4; clear hx; go_simp; try rfl)
      simp only [Act.put, List.setIfInBounds_toArray, List.set_cons_zero, List.set_cons_succ]
      refine hl_take_np 3 (by kernel_rfl) (by kernel_rfl) rfl (by kernel_rfl) hs0 (v := ?_) ?_ ?_
      rotate_left
      · (rintro x hx; have k1 := hx.cell c0; have k2 := hx.cell c1; have k3 := hx.cell c2; have k4 := hx.cell c3; have k5 := hx.cell c4; clear hx; go_simp; try rfl)
      simp only [Act.put, List.setIfInBounds_toArray, List.set_cons_zero, List.set_cons_succ]
      refine hl_take_np 4 (by kernel_rfl) (by kernel_rfl) rfl (by kernel_rfl) hs0 (v := ?_) ?_ ?_
      rotate_left
      · (rintro x hx; have k1 := hx.cell c0; have k2 := hx.cell c1; have k3 := hx.cell c2; have k4 := hx.cell c3; have k5 := hx.cell c4; clear hx; go_simp; try rfl)
      simp only [Act.put, List.setIfInBounds_toArray, List.set_cons_zero, List.set_cons_succ]
      refine hl_take_np 6 (by kernel_rfl) (by kernel_rfl) rfl (by kernel_rfl) hs0 (v := ?_) ?_ ?_
      rotate_left
      · (rintro x hx; have k1 := hx.cell c0; have k2 := hx.cell c1; have k3 := hx.cell c2; have k4 := hx.cell c3; have k5 := hx.cell c4; clear hx; go_simp; try rfl)
      simp only [Act.put, List.setIfInBounds_toArray, List.set_cons_zero, List.set_cons_succ]
      refine hl_take_np 7 (by kernel_rfl) (by kernel_rfl) rfl (by kernel_rfl) hs0 (v := ?_) ?_ ?_
      rotate_left
      · (rintro x hx; have k1 := hx.cell c0; have k2 := hx.cell c1; have k3 := hx.cell c2; have k4 := hx.cell c3; have k5 := hx.cell c4; clear hx; go_simp; try rfl)
      simp only [Act.put, List.setIfInBounds_toArray, List.set_cons_zero, List.set_cons_succ]
      refine hl_take_np 9 (by kernel_rfl) (by kernel_rfl) rfl (by kernel_rfl) hs0 (v := ?_) ?_ ?_
      rotate_left
      · (rintro x hx; have k1 := hx.cell c0; have k2 := hx.cell c1; have k3 := hx.cell c2; have k4 := hx.cell c3; have k5 := hx.cell c4; clear hx; go_simp; try rfl)
      simp only [Act.put, List.setIfInBounds_toArray, List.set_cons_zero, List.set_cons_succ]
      refine hl_take_np 10 (by kernel_rfl) (by kernel_rfl) rfl (by kernel_rfl) hs0 (v := ?_) ?_ ?_
      rotate_left
      · (rintro x hx; have k1 := hx.cell c0; have k2 := hx.cell c1; have k3 := hx.cell c2; have k4 := hx.cell c3; have k5 := hx.cell c4; clear hx; go_simp; try rfl)
      simp only [Act.put, List.setIfInBounds_toArray, List.set_cons_zero, List.set_cons_succ]
      refine hl_take_np 12 (by kernel_rfl) (by kernel_rfl) rfl (by kernel_rfl) hs0 (v := ?_) ?_ ?_
      rotate_left
      · (rintro x hx; have k1 := hx.cell c0; have k2 := hx.cell c1; have k3 := hx.cell c2; have k4 := hx.cell c3; have k5 := hx.cell c4; clear hx; go_simp; try rfl)
      simp only [Act.put, List.setIfInBounds_toArray, List.set_cons_zero, List.set_cons_succ]
      refine hl_take_np 13 (by kernel_rfl) (by kernel_rfl) rfl (by kernel_rfl) hs0 (v := ?_) ?_ ?_
      rotate_left
      · (rintro x hx; have k1 := hx.cell c0; have k2 := hx.cell c1; have k3 := hx.cell c2; have k4 := hx.cell c3; have k5 := hx.cell c4; clear hx; go_simp; try rfl)
      simp only [Act.put, List.setIfInBounds_toArray, List.set_cons_zero, List.set_cons_succ]
      refine hl_take_np 14 (by kernel_rfl) (by kernel_rfl) rfl (by kernel_rfl) hs0 (v := ?_) ?_ ?_
      rotate_left
      · (rintro x hx; have k1 := hx.cell c0; have k2 := hx.cell c1; have k3 := hx.cell c2; have k4 := hx.cell c3; have k5 := hx.cell c4; clear hx; go_simp; try rfl)
      simp only [Act.put, List.setIfInBounds_toArray, List.set_cons_zero, List.set_cons_succ]
      refine hl_take_np 15 (by kernel_rfl) (by kernel_rfl) rfl (by kernel_rfl) hs0 (v := ?_) ?_ ?_
      rotate_left
      · (rintro x hx; have k1 := hx.cell c0; have k2 := hx.cell c1; have k3 := hx.cell c2; have k4 := hx.cell c3; have k5 := hx.cell c4; clear hx; go_simp; try rfl)
      simp only [Act.put, List.setIfInBounds_toArray, List.set_cons_zero, List.set_cons_succ]
      refine hl_twoW 2 16 (by kernel_rfl) rfl rfl (by kernel_rfl) (by kernel_rfl) ?_ ?_
      · intro K hK
        go_simp
        refine (text_any f WD (by omega)).mono ?_
        rintro e W1 ⟨v0, rfl, ho0, hgx⟩
        have hs1 : G W0 W1 := hs0.trans hgx
        have r0 := rdr_of_owns ho0
        obtain ⟨p0, q0, rfl⟩ := ownsRow_shape ho0
        refine hK _ _ (fun _ => hs1) ?_
        clear hK K ho0 hgx
        simp only [Act.put, List.setIfInBounds_toArray, List.set_cons_zero, List.set_cons_succ]
        refine hl_twoW 5 16 (by kernel_rfl) rfl rfl (by kernel_rfl) (by kernel_rfl) ?_ ?_
        · intro K hK
          go_simp
          refine (text_any t W1 (by omega)).mono ?_
          rintro e W2 ⟨v1, rfl, ho1, hgx⟩
          have hs2 : G W0 W2 := hs1.trans hgx
          have r1 := rdr_of_owns ho1
          obtain ⟨p1, q1, rfl⟩ := ownsRow_shape ho1
          have r0 := r0.g hgx
          refine hK _ _ (fun _ => hs2) ?_
          clear hK K ho1 hgx
          simp only [Act.put, List.setIfInBounds_toArray, List.set_cons_zero, List.set_cons_succ]
          refine hl_twoW 8 16 (by kernel_rfl) rfl rfl (by kernel_rfl) (by kernel_rfl) ?_ ?_
          · intro K hK
            go_simp
            refine (text_any l W2 (by omega)).mono ?_
            rintro e W3 ⟨v2, rfl, ho2, hgx⟩
            have hs3 : G W0 W3 := hs2.trans hgx
            have r2 := rdr_of_owns ho2
            obtain ⟨p2, q2, rfl⟩ := ownsRow_shape ho2
            have r0 := r0.g hgx
            have r1 := r1.g hgx
            refine hK _ _ (fun _ => hs3) ?_
            clear hK K ho2 hgx
            simp only [Act.put, List.setIfInBounds_toArray, List.set_cons_zero, List.set_cons_succ]
            refine hl_twoW 11 16 (by kernel_rfl) rfl rfl (by kernel_rfl) (by kernel_rfl) ?_ ?_
            · intro K hK
              go_simp
              refine (number_any tm W3 ht0 (by omega)).mono ?_
              rintro e W4 ⟨v3, rfl, ho3, hgx⟩
              have hs4 : G W0 W4 := hs3.trans hgx
              have r3 := rdr_of_owns ho3
              obtain ⟨p3, q3, rfl⟩ := ownsRow_shape ho3
              have r0 := r0.g hgx
              have r1 := r1.g hgx
              have r2 := r2.g hgx
              refine hK _ _ (fun _ => hs4) ?_
              clear hK K ho3 hgx
              simp only [Act.put, List.setIfInBounds_toArray, List.set_cons_zero, List.set_cons_succ]
              refine hl_stepW 16 (by kernel_rfl) rfl (by kernel_rfl) ?_
              intro K hK
              go_simp
              have hs5 : G W0 (W4.alloc (.cells #[.int .u8 (IntKind.u8.wrap (n : Int))] 5)) := hs4.alloc _
              have r9 : Rdr (W4.alloc (.cells #[.int .u8 (IntKind.u8.wrap (n : Int))] 5)) 1 (.slice (some ⟨W4.heap.size, 0, none⟩) 1 1) 1 (bys [UInt8.ofNat n]) := by rw [bys_n]; exact rdr_alloc W4 [.int .u8 (IntKind.u8.wrap (n : Int))] 5 (0, 0) 1 1 1 rfl
              have r0 := r0.g (((G.refl W4).alloc (.cells #[.int .u8 (IntKind.u8.wrap (n : Int))] 5)))
              have r1 := r1.g (((G.refl W4).alloc (.cells #[.int .u8 (IntKind.u8.wrap (n : Int))] 5)))
              have r2 := r2.g (((G.refl W4).alloc (.cells #[.int .u8 (IntKind.u8.wrap (n : Int))] 5)))
              have r3 := r3.g (((G.refl W4).alloc (.cells #[.int .u8 (IntKind.u8.wrap (n : Int))] 5)))
              refine hK _ _ (fun _ => hs5) ?_
              clear hK K
              simp only [Act.put, List.setIfInBounds_toArray, List.set_cons_zero, List.set_cons_succ]
              generalize (W4.alloc (.cells #[.int .u8 (IntKind.u8.wrap (n : Int))] 5)) = W5 at hs5 r9 r0 r1 r2 r3 ⊢
              refine hl_stepW 17 (by kernel_rfl) rfl (by kernel_rfl) ?_
              intro K hK
              go_simp
              have hsA : G W0 (W5.alloc (.cells #[.slice p0 (1 + f.size) q0, .slice p1 (1 + t.size) q1, .slice p2 (1 + l.size) q2, .slice p3 6 q3, .slice (some ⟨W4.heap.size, 0, none⟩) 1 1] 22)) := hs5.alloc _
              refine hK _ _ (fun _ => hsA) ?_
              clear hK K
              simp only [Act.put, List.setIfInBounds_toArray, List.set_cons_zero, List.set_cons_succ]
              have rz : RowsB (W5.alloc (.cells #[.slice p0 (1 + f.size) q0, .slice p1 (1 + t.size) q1, .slice p2 (1 + l.size) q2, .slice p3 6 q3, .slice (some ⟨W4.heap.size, 0, none⟩) 1 1] 22)) (.slice (some ⟨W5.heap.size, 0, none⟩) 5 5) [textB f, textB t, textB l, numB tm, [UInt8.ofNat n]] := rowsB_one (rdr_alloc W5 [.slice p0 (1 + f.size) q0, .slice p1 (1 + t.size) q1, .slice p2 (1 + l.size) q2, .slice p3 6 q3, .slice (some ⟨W4.heap.size, 0, none⟩) 1 1] 22 (0, 0) 1 5 5 rfl) rfl (by
                intro k u bs hu hb
                rcases k with _ | _ | _ | _ | _ | k
                · simp at hu hb; subst hu; subst hb; rw [textB_len]; exact r0.alloc _
                · simp at hu hb; subst hu; subst hb; rw [textB_len]; exact r1.alloc _
                · simp at hu hb; subst hu; subst hb; rw [textB_len]; exact r2.alloc _
                · simp at hu hb; subst hu; subst hb; exact r3.alloc _
                · simp at hu hb; subst hu; subst hb; exact r9.alloc _
                · simp at hu)
              refine hl_stepW 18 (by kernel_rfl) rfl (by kernel_rfl) ?_
              intro K hK
              go_simp
              refine (concat_any [textB f, textB t, textB l, numB tm, [UInt8.ofNat n]] _ _ rz (by simp) (by simp only [tot, List.map_cons, List.map_nil, textB_len, List.sum_cons, List.sum_nil, numB, List.length_cons, List.length_nil]; omega)).mono ?_
              rintro e WF ⟨v, rfl, hoF, hgF⟩
              have hsF : G W0 WF := hsA.trans hgF
              refine hK _ _ (fun _ => hsF) ?_
              clear hK
              simp only [Act.put, List.setIfInBounds_toArray, List.set_cons_zero, List.set_cons_succ]
              refine hl_take_np 19 (by kernel_rfl) (by kernel_rfl) rfl (by kernel_rfl) hsF (v := ?_) ?_ ?_
              rotate_left
              · (rintro x hx; clear hx; go_simp; try rfl)
              simp only [Act.put, List.setIfInBounds_toArray, List.set_cons_zero, List.set_cons_succ]
              refine hl_done (by kernel_rfl) ?_ _
              refine NoPanic.normal ?_
              rw [HQ0.out]
              refine ⟨_, _, _, _, _, _, _, _, _, _, _, _, _, _, _, _, _, _, _, _, _, _, _, _, _, _, _, _, _, _, _, _, _, _, _, _, _, _, _, _, _, _, _, _, _, _, _, _, _, _, _, _, _, _, _, _, _, _, _, _, _, _, _, v, trivial, rfl, rfl, ?_, hsF⟩
              rw [headE_flat, headE_tot] at hoF
              exact ownsRow_mono hoF hsA.size
            · intro K hK
              go_simp
              have hs4 : G W0 (W3.alloc (.cells #[.int .u8 (IntKind.u8.wrap (n : Int))] 5)) := hs3.alloc _
              have r9 : Rdr (W3.alloc (.cells #[.int .u8 (IntKind.u8.wrap (n : Int))] 5)) 1 (.slice (some ⟨W3.heap.size, 0, none⟩) 1 1) 1 (bys [UInt8.ofNat n]) := by rw [bys_n]; exact rdr_alloc W3 [.int .u8 (IntKind.u8.wrap (n : Int))] 5 (0, 0) 1 1 1 rfl
              have r0 := r0.g (((G.refl W3).alloc (.cells #[.int .u8 (IntKind.u8.wrap (n : Int))] 5)))
              have r1 := r1.g (((G.refl W3).alloc (.cells #[.int .u8 (IntKind.u8.wrap (n : Int))] 5)))
              have r2 := r2.g (((G.refl W3).alloc (.cells #[.int .u8 (IntKind.u8.wrap (n : Int))] 5)))
              refine hK _ _ (fun _ => hs4) ?_
              clear hK K
              simp only [Act.put, List.setIfInBounds_toArray, List.set_cons_zero, List.set_cons_succ]
              generalize (W3.alloc (.cells #[.int .u8 (IntKind.u8.wrap (n : Int))] 5)) = W4 at hs4 r9 r0 r1 r2 ⊢
              refine hl_stepW 11 (by kernel_rfl) rfl (by kernel_rfl) ?_
              intro K hK
              go_simp
              refine (number_any tm W4 ht0 (by omega)).mono ?_
              rintro e W5 ⟨v3, rfl, ho3, hgx⟩
              have hs5 : G W0 W5 := hs4.trans hgx
              have r3 := rdr_of_owns ho3
              obtain ⟨p3, q3, rfl⟩ := ownsRow_shape ho3
              have r0 := r0.g hgx
              have r1 := r1.g hgx
              have r2 := r2.g hgx
              have r9 := r9.g hgx
              refine hK _ _ (fun _ => hs5) ?_
              clear hK K ho3 hgx
              simp only [Act.put, List.setIfInBounds_toArray, List.set_cons_zero, List.set_cons_succ]
              refine hl_stepW 17 (by kernel_rfl) rfl (by kernel_rfl) ?_
              intro K hK
              go_simp
              have hsA : G W0 (W5.alloc (.cells #[.slice p0 (1 + f.size) q0, .slice p1 (1 + t.size) q1, .slice p2 (1 + l.size) q2, .slice p3 6 q3, .slice (some ⟨W3.heap.size, 0, none⟩) 1 1] 22)) := hs5.alloc _
              refine hK _ _ (fun _ => hsA) ?_
              clear hK K
              simp only [Act.put, List.setIfInBounds_toArray, List.set_cons_zero, List.set_cons_succ]
              have rz : RowsB (W5.alloc (.cells #[.slice p0 (1 + f.size) q0, .slice p1 (1 + t.size) q1, .slice p2 (1 + l.size) q2, .slice p3 6 q3, .slice (some ⟨W3.heap.size, 0, none⟩) 1 1] 22)) (.slice (some ⟨W5.heap.size, 0, none⟩) 5 5) [textB f, textB t, textB l, numB tm, [UInt8.ofNat n]] := rowsB_one (rdr_alloc W5 [.slice p0 (1 + f.size) q0, .slice p1 (1 + t.size) q1, .slice p2 (1 + l.size) q2, .slice p3 6 q3, .slice (some ⟨W3.heap.size, 0, none⟩) 1 1] 22 (0, 0) 1 5 5 rfl) rfl (by
                intro k u bs hu hb
                rcases k with _ | _ | _ | _ | _ | k
                · simp at hu hb; subst hu; subst hb; rw [textB_len]; exact r0.alloc _
                · simp at hu hb; subst hu; subst hb; rw [textB_len]; exact r1.alloc _
                · simp at hu hb; subst hu; subst hb; rw [textB_len]; exact r2.alloc _
                · simp at hu hb; subst hu; subst hb; exact r3.alloc _
                · simp at hu hb; subst hu; subst hb; exact r9.alloc _
                · simp at hu)
              refine hl_stepW 18 (by kernel_rfl) rfl (by kernel_rfl) ?_
              intro K hK
              go_simp
              refine (concat_any [textB f, textB t, textB l, numB tm, [UInt8.ofNat n]] _ _ rz (by simp) (by simp only [tot, List.map_cons, List.map_nil, textB_len, List.sum_cons, List.sum_nil, numB, List.length_cons, List.length_nil]; omega)).mono ?_
              rintro e WF ⟨v, rfl, hoF, hgF⟩
              have hsF : G W0 WF := hsA.trans hgF
              refine hK _ _ (fun _ => hsF) ?_
              clear hK
              simp only [Act.put, List.setIfInBounds_toArray, List.set_cons_zero, List.set_cons_succ]
              refine hl_take_np 19 (by kernel_rfl) (by kernel_rfl) rfl (by kernel_rfl) hsF (v := ?_) ?_ ?_
              rotate_left
              · (rintro x hx; clear hx; go_simp; try rfl)
              simp only [Act.put, List.setIfInBounds_toArray, List.set_cons_zero, List.set_cons_succ]
              refine hl_done (by kernel_rfl) ?_ _
              refine NoPanic.normal ?_
              rw [HQ0.out]
              refine ⟨_, _, _, _, _, _, _, _, _, _, _, _, _, _, _, _, _, _, _, _, _, _, _, _, _, _, _, _, _, _, _, _, _, _, _, _, _, _, _, _, _, _, _, _, _, _, _, _, _, _, _, _, _, _, _, _, _, _, _, _, _, _, _, v, trivial, rfl, rfl, ?_, hsF⟩
              rw [headE_flat, headE_tot] at hoF
              exact ownsRow_mono hoF hsA.size
          · intro K hK
            go_simp
            have hs3 : G W0 (W2.alloc (.cells #[.int .u8 (IntKind.u8.wrap (n : Int))] 5)) := hs2.alloc _
            have r9 : Rdr (W2.alloc (.cells #[.int .u8 (IntKind.u8.wrap (n : Int))] 5)) 1 (.slice (some ⟨W2.heap.size, 0, none⟩) 1 1) 1 (bys [UInt8.ofNat n]) := by rw [bys_n]; exact rdr_alloc W2 [.int .u8 (IntKind.u8.wrap (n : Int))] 5 (0, 0) 1 1 1 rfl
            have r0 := r0.g (((G.refl W2).alloc (.cells #[.int .u8 (IntKind.u8.wrap (n : Int))] 5)))
            have r1 := r1.g (((G.refl W2).alloc (.cells #[.int .u8 (IntKind.u8.wrap (n : Int))] 5)))
            refine hK _ _ (fun _ => hs3) ?_
            clear hK K
            simp only [Act.put, List.setIfInBounds_toArray, List.set_cons_zero, List.set_cons_succ]
            generalize (W2.alloc (.cells #[.int .u8 (IntKind.u8.wrap (n : Int))] 5)) = W3 at hs3 r9 r0 r1 ⊢
            refine hl_stepW 8 (by kernel_rfl) rfl (by kernel_rfl) ?_
            intro K hK
            go_simp
            refine (text_any l W3 (by omega)).mono ?_
            rintro e W4 ⟨v2, rfl, ho2, hgx⟩
            have hs4 : G W0 W4 := hs3.trans hgx
            have r2 := rdr_of_owns ho2
            obtain ⟨p2, q2, rfl⟩ := ownsRow_shape ho2
            have r0 := r0.g hgx
            have r1 := r1.g hgx
            have r9 := r9.g hgx
            refine hK _ _ (fun _ => hs4) ?_
            clear hK K ho2 hgx
            simp only [Act.put, List.setIfInBounds_toArray, List.set_cons_zero, List.set_cons_succ]
            refine hl_stepW 11 (by kernel_rfl) rfl (by kernel_rfl) ?_
            intro K hK
            go_simp
            refine (number_any tm W4 ht0 (by omega)).mono ?_
            rintro e W5 ⟨v3, rfl, ho3, hgx⟩
            have hs5 : G W0 W5 := hs4.trans hgx
            have r3 := rdr_of_owns ho3
            obtain ⟨p3, q3, rfl⟩ := ownsRow_shape ho3
            have r0 := r0.g hgx
            have r1 := r1.g hgx
            have r2 := r2.g hgx
            have r9 := r9.g hgx
            refine hK _ _ (fun _ => hs5) ?_
            clear hK K ho3 hgx
            simp only [Act.put, List.setIfInBounds_toArray, List.set_cons_zero, List.set_cons_succ]
            refine hl_stepW 17 (by kernel_rfl) rfl (by kernel_rfl) ?_
            intro K hK
            go_simp
            have hsA : G W0 (W5.alloc (.cells #[.slice p0 (1 + f.size) q0, .slice p1 (1 + t.size) q1, .slice p2 (1 + l.size) q2, .slice p3 6 q3, .slice (some ⟨W2.heap.size, 0, none⟩) 1 1] 22)) := hs5.alloc _
            refine hK _ _ (fun _ => hsA) ?_
            clear hK K
            simp only [Act.put, List.setIfInBounds_toArray, List.set_cons_zero, List.set_cons_succ]
            have rz : RowsB (W5.alloc (.cells #[.slice p0 (1 + f.size) q0, .slice p1 (1 + t.size) q1, .slice p2 (1 + l.size) q2, .slice p3 6 q3, .slice (some ⟨W2.heap.size, 0, none⟩) 1 1] 22)) (.slice (some ⟨W5.heap.size, 0, none⟩) 5 5) [textB f, textB t, textB l, numB tm, [UInt8.ofNat n]] := rowsB_one (rdr_alloc W5 [.slice p0 (1 + f.size) q0, .slice p1 (1 + t.size) q1, .slice p2 (1 + l.size) q2, .slice p3 6 q3, .slice (some ⟨W2.heap.size, 0, none⟩) 1 1] 22 (0, 0) 1 5 5 rfl) rfl (by
              intro k u bs hu hb
              rcases k with _ | _ | _ | _ | _ | k
              · simp at hu hb; subst hu; subst hb; rw [textB_len]; exact r0.alloc _
              · simp at hu hb; subst hu; subst hb; rw [textB_len]; exact r1.alloc _
              · simp at hu hb; subst hu; subst hb; rw [textB_len]; exact r2.alloc _
              · simp at hu hb; subst hu; subst hb; exact r3.alloc _
              · simp at hu hb; subst hu; subst hb; exact r9.alloc _
              · simp at hu)
            refine hl_stepW 18 (by kernel_rfl) rfl (by kernel_rfl) ?_
            intro K hK
            go_simp
            refine (concat_any [textB f, textB t, textB l, numB tm, [UInt8.ofNat n]] _ _ rz (by simp) (by simp only [tot, List.map_cons, List.map_nil, textB_len, List.sum_cons, List.sum_nil, numB, List.length_cons, List.length_nil]; omega)).mono ?_
            rintro e WF ⟨v, rfl, hoF, hgF⟩
            have hsF : G W0 WF := hsA.trans hgF
            refine hK _ _ (fun _ => hsF) ?_
            clear hK
            simp only [Act.put, List.setIfInBounds_toArray, List.set_cons_zero, List.set_cons_succ]
            refine hl_take_np 19 (by kernel_rfl) (by kernel_rfl) rfl (by kernel_rfl) hsF (v := ?_) ?_ ?_
            rotate_left
            · (rintro x hx; clear hx; go_simp; try rfl)
            simp only [Act.put, List.setIfInBounds_toArray, List.set_cons_zero, List.set_cons_succ]
            refine hl_done (by kernel_rfl) ?_ _
            refine NoPanic.normal ?_
            rw [HQ0.out]
            refine ⟨_, _, _, _, _, _, _, _, _, _, _, _, _, _, _, _, _, _, _, _, _, _, _, _, _, _, _, _, _, _, _, _, _, _, _, _, _, _, _, _, _, _, _, _, _, _, _, _, _, _, _, _, _, _, _, _, _, _, _, _, _, _, _, v, trivial, rfl, rfl, ?_, hsF⟩
            rw [headE_flat, headE_tot] at hoF
            exact ownsRow_mono hoF hsA.size
        · intro K hK
          go_simp
          have hs2 : G W0 (W1.alloc (.cells #[.int .u8 (IntKind.u8.wrap (n : Int))] 5)) := hs1.alloc _
          have r9 : Rdr (W1.alloc (.cells #[.int .u8 (IntKind.u8.wrap (n : Int))] 5)) 1 (.slice (some ⟨W1.heap.size, 0, none⟩) 1 1) 1 (bys [UInt8.ofNat n]) := by rw [bys_n]; exact rdr_alloc W1 [.int .u8 (IntKind.u8.wrap (n : Int))] 5 (0, 0) 1 1 1 rfl
          have r0 := r0.g (((G.refl W1).alloc (.cells #[.int .u8 (IntKind.u8.wrap (n : Int))] 5)))
          refine hK _ _ (fun _ => hs2) ?_
          clear hK K
          simp only [Act.put, List.setIfInBounds_toArray, List.set_cons_zero, List.set_cons_succ]
          generalize (W1.alloc (.cells #[.int .u8 (IntKind.u8.wrap (n : Int))] 5)) = W2 at hs2 r9 r0 ⊢
          refine hl_stepW 5 (by kernel_rfl) rfl (by kernel_rfl) ?_
          intro K hK
          go_simp
          refine (text_any t W2 (by omega)).mono ?_
          rintro e W3 ⟨v1, rfl, ho1, hgx⟩
          have hs3 : G W0 W3 := hs2.trans hgx
          have r1 := rdr_of_owns ho1
          obtain ⟨p1, q1, rfl⟩ := ownsRow_shape ho1
          have r0 := r0.g hgx
          have r9 := r9.g hgx
          refine hK _ _ (fun _ => hs3) ?_
          clear hK K ho1 hgx
          simp only [Act.put, List.setIfInBounds_toArray, List.set_cons_zero, List.set_cons_succ]
          refine hl_stepW 8 (by kernel_rfl) rfl (by kernel_rfl) ?_
          intro K hK
          go_simp
          refine (text_any l W3 (by omega)).mono ?_
          rintro e W4 ⟨v2, rfl, ho2, hgx⟩
          have hs4 : G W0 W4 := hs3.trans hgx
          have r2 := rdr_of_owns ho2
          obtain ⟨p2, q2, rfl⟩ := ownsRow_shape ho2
          have r0 := r0.g hgx
          have r1 := r1.g hgx
          have r9 := r9.g hgx
          refine hK _ _ (fun _ => hs4) ?_
          clear hK K ho2 hgx
          simp only [Act.put, List.setIfInBounds_toArray, List.set_cons_zero, List.set_cons_succ]
          refine hl_stepW 11 (by kernel_rfl) rfl (by kernel_rfl) ?_
          intro K hK
          go_simp
          refine (number_any tm W4 ht0 (by omega)).mono ?_
          rintro e W5 ⟨v3, rfl, ho3, hgx⟩
          have hs5 : G W0 W5 := hs4.trans hgx
          have r3 := rdr_of_owns ho3
          obtain ⟨p3, q3, rfl⟩ := ownsRow_shape ho3
          have r0 := r0.g hgx
          have r1 := r1.g hgx
          have r2 := r2.g hgx
          have r9 := r9.g hgx
          refine hK _ _ (fun _ => hs5) ?_
          clear hK K ho3 hgx
          simp only [Act.put, List.setIfInBounds_toArray, List.set_cons_zero, List.set_cons_succ]
          refine hl_stepW 17 (by kernel_rfl) rfl (by kernel_rfl) ?_
          intro K hK
          go_simp
          have hsA : G W0 (W5.alloc (.cells #[.slice p0 (1 + f.size) q0, .slice p1 (1 + t.size) q1, .slice p2 (1 + l.size) q2, .slice p3 6 q3, .slice (some ⟨W1.heap.size, 0, none⟩) 1 1] 22)) := hs5.alloc _
          refine hK _ _ (fun _ => hsA) ?_
          clear hK K
          simp only [Act.put, List.setIfInBounds_toArray, List.set_cons_zero, List.set_cons_succ]
          have rz : RowsB (W5.alloc (.cells #[.slice p0 (1 + f.size) q0, .slice p1 (1 + t.size) q1, .slice p2 (1 + l.size) q2, .slice p3 6 q3, .slice (some ⟨W1.heap.size, 0, none⟩) 1 1] 22)) (.slice (some ⟨W5.heap.size, 0, none⟩) 5 5) [textB f, textB t, textB l, numB tm, [UInt8.ofNat n]] := rowsB_one (rdr_alloc W5 [.slice p0 (1 + f.size) q0, .slice p1 (1 + t.size) q1, .slice p2 (1 + l.size) q2, .slice p3 6 q3, .slice (some ⟨W1.heap.size, 0, none⟩) 1 1] 22 (0, 0) 1 5 5 rfl) rfl (by
            intro k u bs hu hb
            rcases k with _ | _ | _ | _ | _ | k
            · simp at hu hb; subst hu; subst hb; rw [textB_len]; exact r0.alloc _
            · simp at hu hb; subst hu; subst hb; rw [textB_len]; exact r1.alloc _
            · simp at hu hb; subst hu; subst hb; rw [textB_len]; exact r2.alloc _
            · simp at hu hb; subst hu; subst hb; exact r3.alloc _
            · simp at hu hb; subst hu; subst hb; exact r9.alloc _
            · simp at hu)
          refine hl_stepW 18 (by kernel_rfl) rfl (by kernel_rfl) ?_
          intro K hK
          go_simp
          refine (concat_any [textB f, textB t, textB l, numB tm, [UInt8.ofNat n]] _ _ rz (by simp) (by simp only [tot, List.map_cons, List.map_nil, textB_len, List.sum_cons, List.sum_nil, numB, List.length_cons, List.length_nil]; omega)).mono ?_
          rintro e WF ⟨v, rfl, hoF, hgF⟩
          have hsF : G W0 WF := hsA.trans hgF
          refine hK _ _ (fun _ => hsF) ?_
          clear hK
          simp only [Act.put, List.setIfInBounds_toArray, List.set_cons_zero, List.set_cons_succ]
          refine hl_take_np 19 (by kernel_rfl) (by kernel_rfl) rfl (by kernel_rfl) hsF (v := ?_) ?_ ?_
          rotate_left
          · (rintro x hx; clear hx; go_simp; try rfl)
          simp only [Act.put, List.setIfInBounds_toArray, List.set_cons_zero, List.set_cons_succ]
          refine hl_done (by kernel_rfl) ?_ _
          refine NoPanic.normal ?_
          rw [HQ0.out]
          refine ⟨_, _, _, _, _, _, _, _, _, _, _, _, _, _, _, _, _, _, _, _, _, _, _, _, _, _, _, _, _, _, _, _, _, _, _, _, _, _, _, _, _, _, _, _, _, _, _, _, _, _, _, _, _, _, _, _, _, _, _, _, _, _, _, v, trivial, rfl, rfl, ?_, hsF⟩
          rw [headE_flat, headE_tot] at hoF
          exact ownsRow_mono hoF hsA.size
      · intro K hK
        go_simp
        have hs1 : G W0 (WD.alloc (.cells #[.int .u8 (IntKind.u8.wrap (n : Int))] 5)) := hs0.alloc _
        have r9 : Rdr (WD.alloc (.cells #[.int .u8 (IntKind.u8.wrap (n : Int))] 5)) 1 (.slice (some ⟨WD.heap.size, 0, none⟩) 1 1) 1 (bys [UInt8.ofNat n]) := by rw [bys_n]; exact rdr_alloc WD [.int .u8 (IntKind.u8.wrap (n : Int))] 5 (0, 0) 1 1 1 rfl
        refine hK _ _ (fun _ => hs1) ?_
        clear hK K
        simp only [Act.put, List.setIfInBounds_toArray, List.set_cons_zero, List.set_cons_succ]
        generalize (WD.alloc (.cells #[.int .u8 (IntKind.u8.wrap (n : Int))] 5)) = W1 at hs1 r9  ⊢
        refine hl_stepW 2 (by kernel_rfl) rfl (by kernel_rfl) ?_
        intro K hK
        go_simp
        refine (text_any f W1 (by omega)).mono ?_
        rintro e W2 ⟨v0, rfl, ho0, hgx⟩
        have hs2 : G W0 W2 := hs1.trans hgx
        have r0 := rdr_of_owns ho0
        obtain ⟨p0, q0, rfl⟩ := ownsRow_shape ho0
        have r9 := r9.g hgx
        refine hK _ _ (fun _ => hs2) ?_
        clear hK K ho0 hgx
        simp only [Act.put, List.setIfInBounds_toArray, List.set_cons_zero, List.set_cons_succ]
        refine hl_stepW 5 (by kernel_rfl) rfl (by kernel_rfl) ?_
        intro K hK
        go_simp
        refine (text_any t W2 (by omega)).mono ?_
        rintro e W3 ⟨v1, rfl, ho1, hgx⟩
        have hs3 : G W0 W3 := hs2.trans hgx
        have r1 := rdr_of_owns ho1
        obtain ⟨p1, q1, rfl⟩ := ownsRow_shape ho1
        have r0 := r0.g hgx
        have r9 := r9.g hgx
        refine hK _ _ (fun _ => hs3) ?_
        clear hK K ho1 hgx
        simp only [Act.put, List.setIfInBounds_toArray, List.set_cons_zero, List.set_cons_succ]
        refine hl_stepW 8 (by kernel_rfl) rfl (by kernel_rfl) ?_
        intro K hK
        go_simp
        refine (text_any l W3 (by omega)).mono ?_
        rintro e W4 ⟨v2, rfl, ho2, hgx⟩
        have hs4 : G W0 W4 := hs3.trans hgx
        have r2 := rdr_of_owns ho2
        obtain ⟨p2, q2, rfl⟩ := ownsRow_shape ho2
        have r0 := r0.g hgx
        have r1 := r1.g hgx
        have r9 := r9.g hgx
        refine hK _ _ (fun _ => hs4) ?_
        clear hK K ho2 hgx
        simp only [Act.put, List.setIfInBounds_toArray, List.set_cons_zero, List.set_cons_succ]
        refine hl_stepW 11 (by kernel_rfl) rfl (by kernel_rfl) ?_
        intro K hK
        go_simp
        refine (number_any tm W4 ht0 (by omega)).mono ?_
        rintro e W5 ⟨v3, rfl, ho3, hgx⟩
        have hs5 : G W0 W5 := hs4.trans hgx
        have r3 := rdr_of_owns ho3
        obtain ⟨p3, q3, rfl⟩ := ownsRow_shape ho3
        have r0 := r0.g hgx
        have r1 := r1.g hgx
        have r2 := r2.g hgx
        have r9 := r9.g hgx
        refine hK _ _ (fun _ => hs5) ?_
        clear hK K ho3 hgx
        simp only [Act.put, List.setIfInBounds_toArray, List.set_cons_zero, List.set_cons_succ]
        refine hl_stepW 17 (by kernel_rfl) rfl (by kernel_rfl) ?_
        intro K hK
        go_simp
        have hsA : G W0 (W5.alloc (.cells #[.slice p0 (1 + f.size) q0, .slice p1 (1 + t.size) q1, .slice p2 (1 + l.size) q2, .slice p3 6 q3, .slice (some ⟨WD.heap.size, 0, none⟩) 1 1] 22)) := hs5.alloc _
        refine hK _ _ (fun _ => hsA) ?_
        clear hK K
        simp only [Act.put, List.setIfInBounds_toArray, List.set_cons_zero, List.set_cons_succ]
        have rz : RowsB (W5.alloc (.cells #[.slice p0 (1 + f.size) q0, .slice p1 (1 + t.size) q1, .slice p2 (1 + l.size) q2, .slice p3 6 q3, .slice (some ⟨WD.heap.size, 0, none⟩) 1 1] 22)) (.slice (some ⟨W5.heap.size, 0, none⟩) 5 5) [textB f, textB t, textB l, numB tm, [UInt8.ofNat n]] := rowsB_one (rdr_alloc W5 [.slice p0 (1 + f.size) q0, .slice p1 (1 + t.size) q1, .slice p2 (1 + l.size) q2, .slice p3 6 q3, .slice (some ⟨WD.heap.size, 0, none⟩) 1 1] 22 (0, 0) 1 5 5 rfl) rfl (by
          intro k u bs hu hb
          rcases k with _ | _ | _ | _ | _ | k
          · simp at hu hb; subst hu; subst hb; rw [textB_len]; exact r0.alloc _
          · simp at hu hb; subst hu; subst hb; rw [textB_len]; exact r1.alloc _
          · simp at hu hb; subst hu; subst hb; rw [textB_len]; exact r2.alloc _
          · simp at hu hb; subst hu; subst hb; exact r3.alloc _
          · simp at hu hb; subst hu; subst hb; exact r9.alloc _
          · simp at hu)
        refine hl_stepW 18 (by kernel_rfl) rfl (by kernel_rfl) ?_
        intro K hK
        go_simp
        refine (concat_any [textB f, textB t, textB l, numB tm, [UInt8.ofNat n]] _ _ rz (by simp) (by simp only [tot, List.map_cons, List.map_nil, textB_len, List.sum_cons, List.sum_nil, numB, List.length_cons, List.length_nil]; omega)).mono ?_
        rintro e WF ⟨v, rfl, hoF, hgF⟩
        have hsF : G W0 WF := hsA.trans hgF
        refine hK _ _ (fun _ => hsF) ?_
        clear hK
        simp only [Act.put, List.setIfInBounds_toArray, List.set_cons_zero, List.set_cons_succ]
        refine hl_take_np 19 (by kernel_rfl) (by kernel_rfl) rfl (by kernel_rfl) hsF (v := ?_) ?_ ?_
        rotate_left
        · (rintro x hx; clear hx; go_simp; try rfl)
        simp only [Act.put, List.setIfInBounds_toArray, List.set_cons_zero, List.set_cons_succ]
        refine hl_done (by kernel_rfl) ?_ _
        refine NoPanic.normal ?_
        rw [HQ0.out]
        refine ⟨_, _, _, _, _, _, _, _, _, _, _, _, _, _, _, _, _, _, _, _, _, _, _, _, _, _, _, _, _, _, _, _, _, _, _, _, _, _, _, _, _, _, _, _, _, _, _, _, _, _, _, _, _, _, _, _, _, _, _, _, _, _, _, v, trivial, rfl, rfl, ?_, hsF⟩
        rw [headE_flat, headE_tot] at hoF
        exact ownsRow_mono hoF hsA.size
    · rw [HQ0.out]
      rintro e a1 w1 ⟨x0, x4, x6, x7, x8, x9, x10, x11, x12, x13, x14, x15, x16, x17, x18, x19, x20, x21, x22, x23, x24, x25, x26, x27, x28, x29, x30, x31, x32, x33, x34, x35, x36, x37, x38, x39, x40, x41, x42, x43, x44, x45, x46, x47, x48, x49, x50, x51, x52, x53, x54, x55, x56, x57, x58, x59, x60, x61, x62, x63, x64, x65, x66, v, -, rfl, rfl, hown, hg1⟩
      clear HQ0 Q0
      have hgW := hg0.trans hg1
      have d4 := hg1.cell c4
      obtain ⟨op, oc, rfl⟩ := ownsRow_shape hown
      have hown2 := ownsRow_mono hown hg0.size
      clear c0 c1 c2 c3 c4 hown
      go_wp2_with fail
      go_loopw [5, 36] (fun o i wr => ∃ (k m : Nat) (p' : Option Addr) (c' : Nat), k ≤ n ∧ i = .int .i64 k ∧ o = .slice p' m c' ∧ Hid (m = (accE f t l tm n ps k).length) ∧ wr.ownsRow w.heap.size 5 1 (.slice p' m c') m (bys (accE f t l tm n ps k)) ∧ G w wr) (fun _ i _ => n - (intOf i).toNat)
      case atStart => exact ⟨0, _, op, oc, by omega, rfl, rfl, Lib.hid (by rw [accE_zero]), by rw [accE_zero]; exact hown2, hgW⟩
      case round =>
        clear hown2 hgW hg1 hg0 d4
        obtain ⟨k, m, p', c', hk, rfl, rfl, HMM, hown, hg⟩ := hrel
        by_cases hlt : k < n
        · have hkn : (k : Int) < (n : Int) := by omega
          obtain ⟨x, hx⟩ : ∃ x, ps[k]? = some x := ⟨ps[k]'(by have := HN.out; omega), List.getElem?_eq_getElem _⟩
          obtain ⟨b, o, rfl, q0, q1, q2, q3⟩ := HR.out.prop hx
          have t0 := hg.cell q0
          have t1 := hg.cell q1
          have t2 := hg.cell q2
          have t3 := hg.cell q3
          clear q0 q1 q2 q3
          obtain ⟨z0, z3, zn, zk⟩ := HM.out x (List.mem_of_getElem? hx)
          have HACC := Lib.hid (accE_succ f t l tm n hx)
          have hm9 : m ≤ 1000 := by rw [HMM.out]; exact accE_len hf2 ht2 hl2 (by omega) (fun p hp => ⟨(HM.out p hp).1, (HM.out p hp).2.1⟩)
          obtain ⟨x0, x1, x2, x3⟩ := x
          simp only at t0 t1 t2 t3 z0 z3 zn zk
          have HOWN := Lib.hid hown
          clear hown hx
          have hgB : G wr (wr.alloc (.cells #[.string x0, .int .i64 x1, .int .i64 x2, .string x3] 56)) := (G.refl wr).alloc _
          have e0 := cell_alloc_at wr [.string x0, .int .i64 x1, .int .i64 x2, .string x3] 56 (0, 0) 0 _ rfl
          have e1 := cell_alloc_at wr [.string x0, .int .i64 x1, .int .i64 x2, .string x3] 56 (0, 0) 1 _ rfl
          have e2 := cell_alloc_at wr [.string x0, .int .i64 x1, .int .i64 x2, .string x3] 56 (0, 0) 2 _ rfl
          have e3 := cell_alloc_at wr [.string x0, .int .i64 x1, .int .i64 x2, .string x3] 56 (0, 0) 3 _ rfl
          simp only [Nat.zero_add] at e0 e1 e2 e3
          go_upto_region 8 with fail
          clear t0 t1 t2 t3
          go_wp2_with fail
          refine (text_any x3 _ (by omega)).mono ?_
          rintro e wt ⟨vt, rfl, hot, hgx⟩
          have hgT := hgB.trans hgx
          have a0 := hgx.cell e0
          have a1 := hgx.cell e1
          have a2 := hgx.cell e2
          have a3 := hgx.cell e3
          have rt := rdr_of_owns hot
          obtain ⟨pt, qt, rfl⟩ := ownsRow_shape hot
          clear hot hgx hgB e0 e1 e2 e3
          rcases zk with hk1 | hk2
          · obtain ⟨zn1, zn2⟩ := zn hk1
            subst hk1
            clear zn
            go_upto_region 10 with fail
            go_wp2_with fail
            refine (number_any (x2 + 1099511627776) _ (by omega) (by omega)).mono ?_
            rintro e wn ⟨vn, rfl, hon, hgx⟩
            have hgN := hgT.trans hgx
            have b0 := hgx.cell a0
            have b1 := hgx.cell a1
            have rv := rdr_of_owns hon
            obtain ⟨pn, qn, rfl⟩ := ownsRow_shape hon
            clear hon hgx a0 a1 a2 a3 rt hgT
            have a0 := b0
            have a1 := b1
            clear b0 b1
            have HPE := Lib.hid (show propE (x0, 1, x2, x3) = textB x0 ++ [b8 1] ++ numB (x2 + 1099511627776) by simp [propE])
            go_upto_region 11 with fail
            obtain ⟨WD, hWD⟩ : ∃ WD : World, WD = wn.drew := ⟨_, rfl⟩
            have hsD : G wn WD := by rw [hWD]; exact (G.refl wn).drew
            refine region_hlW (fun w' => G wn w') 99 13 (by kernel_rfl) rfl ?_
            intro Q0 HQ0
            simp only [List.replicate_succ, List.replicate_zero]
            rw [← hWD]
            clear hWD
            refine hl_take_np 0 (by kernel_rfl) (by kernel_rfl) rfl (by kernel_rfl) hsD (v := ?_) ?_ ?_
            rotate_left
            · (rintro x hx; have k1 := hx.cell a0; have k2 := hx.cell a1; clear hx; go_simp; try rfl)
            simp only [Act.put, List.setIfInBounds_toArray, List.set_cons_zero, List.set_cons_succ]
            refine hl_take_np 1 (by kernel_rfl) (by kernel_rfl) rfl (by kernel_rfl) hsD (v := ?_) ?_ ?_
            rotate_left
            · (rintro x hx; have k1 := hx.cell a0; have k2 := hx.cell a1; clear hx; go_simp; try rfl)
            simp only [Act.put, List.setIfInBounds_toArray, List.set_cons_zero, List.set_cons_succ]
            refine hl_take_np 2 (by kernel_rfl) (by kernel_rfl) rfl (by kernel_rfl) hsD (v := ?_) ?_ ?_
            rotate_left
            · (rintro x hx; have k1 := hx.cell a0; have k2 := hx.cell a1; clear hx; go_simp; try rfl)
            simp only [Act.put, List.setIfInBounds_toArray, List.set_cons_zero, List.set_cons_succ]
            refine hl_take_np 4 (by kernel_rfl) (by kernel_rfl) rfl (by kernel_rfl) hsD (v := ?_) ?_ ?_
            rotate_left
            · (rintro x hx; have k1 := hx.cell a0; have k2 := hx.cell a1; clear hx; go_simp; try rfl)
            simp only [Act.put, List.setIfInBounds_toArray, List.set_cons_zero, List.set_cons_succ]
            refine hl_take_np 5 (by kernel_rfl) (by kernel_rfl) rfl (by kernel_rfl) hsD (v := ?_) ?_ ?_
            rotate_left
            · (rintro x hx; have k1 := hx.cell a0; have k2 := hx.cell a1; clear hx; go_simp; try rfl)
            simp only [Act.put, List.setIfInBounds_toArray, List.set_cons_zero, List.set_cons_succ]
            refine hl_take_np 6 (by kernel_rfl) (by kernel_rfl) rfl (by kernel_rfl) hsD (v := ?_) ?_ ?_
            rotate_left
            · (rintro x hx; have k1 := hx.cell a0; have k2 := hx.cell a1; clear hx; go_simp; try rfl)
            simp only [Act.put, List.setIfInBounds_toArray, List.set_cons_zero, List.set_cons_succ]
            refine hl_take_np 7 (by kernel_rfl) (by kernel_rfl) rfl (by kernel_rfl) hsD (v := ?_) ?_ ?_
            rotate_left
            · (rintro x hx; have k1 := hx.cell a0; have k2 := hx.cell a1; clear hx; go_simp; try rfl)
            simp only [Act.put, List.setIfInBounds_toArray, List.set_cons_zero, List.set_cons_succ]
            refine hl_take_np 9 (by kernel_rfl) (by kernel_rfl) rfl (by kernel_rfl) hsD (v := ?_) ?_ ?_
            rotate_left
            · (rintro x hx; have k1 := hx.cell a0; have k2 := hx.cell a1; clear hx; go_simp; try rfl)
            simp only [Act.put, List.setIfInBounds_toArray, List.set_cons_zero, List.set_cons_succ]
            refine hl_twoW 3 8 (by kernel_rfl) rfl rfl (by kernel_rfl) (by kernel_rfl) ?_ ?_
            · intro K hK
              go_simp
              refine (text_any x0 WD (by omega)).mono ?_
              rintro e W9 ⟨v9, rfl, ho9, hgx⟩
              have hs1 : G wn W9 := hsD.trans hgx
              have r9 := rdr_of_owns ho9
              obtain ⟨p9, q9, rfl⟩ := ownsRow_shape ho9
              refine hK _ _ (fun _ => hs1) ?_
              clear hK K ho9 hgx
              simp only [Act.put, List.setIfInBounds_toArray, List.set_cons_zero, List.set_cons_succ]
              refine hl_stepW 8 (by kernel_rfl) rfl (by kernel_rfl) ?_
              intro K hK
              go_simp
              have hs2 : G wn (W9.alloc (.cells #[.int .u8 (IntKind.u8.wrap 1)] 5)) := hs1.alloc _
              have rl : Rdr (W9.alloc (.cells #[.int .u8 (IntKind.u8.wrap 1)] 5)) 1 (.slice (some ⟨W9.heap.size, 0, none⟩) 1 1) 1 (bys [b8 1]) := by rw [bys_w]; exact rdr_alloc W9 [.int .u8 (IntKind.u8.wrap 1)] 5 (0, 0) 1 1 1 rfl
              have r9 := r9.g ((G.refl W9).alloc (.cells #[.int .u8 (IntKind.u8.wrap 1)] 5))
              refine hK _ _ (fun _ => hs2) ?_
              clear hK K
              simp only [Act.put, List.setIfInBounds_toArray, List.set_cons_zero, List.set_cons_succ]
              generalize (W9.alloc (.cells #[.int .u8 (IntKind.u8.wrap 1)] 5)) = W8 at hs2 rl r9 ⊢
              refine hl_stepW 10 (by kernel_rfl) rfl (by kernel_rfl) ?_
              intro K hK
              go_simp
              have hsA : G wn (W8.alloc (.cells #[.slice p' m c', .slice p9 (1 + x0.size) q9, .slice (some ⟨W9.heap.size, 0, none⟩) 1 1, .slice pn 6 qn] 22)) := hs2.alloc _
              refine hK _ _ (fun _ => hsA) ?_
              clear hK K
              simp only [Act.put, List.setIfInBounds_toArray, List.set_cons_zero, List.set_cons_succ]
              have ra : Rdr W8 1 (.slice p' m c') (accE f t l tm n ps k).length (bys (accE f t l tm n ps k)) := by rw [← HMM.out]; exact (rdr_of_owns HOWN.out).g (hgN.trans hs2)
              have rv := rv.g hs2
              have rz : RowsB (W8.alloc (.cells #[.slice p' m c', .slice p9 (1 + x0.size) q9, .slice (some ⟨W9.heap.size, 0, none⟩) 1 1, .slice pn 6 qn] 22)) (.slice (some ⟨W8.heap.size, 0, none⟩) 4 4) [accE f t l tm n ps k, textB x0, [b8 1], numB (x2 + 1099511627776)] := rowsB_one (rdr_alloc W8 [.slice p' m c', .slice p9 (1 + x0.size) q9, .slice (some ⟨W9.heap.size, 0, none⟩) 1 1, .slice pn 6 qn] 22 (0, 0) 1 4 4 rfl) rfl (by
                intro k u bs hu hb
                rcases k with _ | _ | _ | _ | k
                · simp at hu hb; subst hu; subst hb; exact ra.alloc _
                · simp at hu hb; subst hu; subst hb; rw [textB_len]; exact r9.alloc _
                · simp at hu hb; subst hu; subst hb; exact rl.alloc _
                · simp at hu hb; subst hu; subst hb; exact rv.alloc _
                · simp at hu)
              refine hl_stepW 11 (by kernel_rfl) rfl (by kernel_rfl) ?_
              intro K hK
              go_simp
              refine (concat_any [accE f t l tm n ps k, textB x0, [b8 1], numB (x2 + 1099511627776)] _ _ rz (by simp) (by simp only [tot, List.map_cons, List.map_nil, textB_len, List.sum_cons, List.sum_nil, numB, List.length_cons, List.length_nil, ← HMM.out]; omega)).mono ?_
              rintro e WF ⟨v, rfl, hoF, hgF⟩
              have hsF : G wn WF := hsA.trans hgF
              have hszF := hsA.size
              refine hK _ _ (fun _ => hsF) ?_
              clear hK K
              simp only [Act.put, List.setIfInBounds_toArray, List.set_cons_zero, List.set_cons_succ]
              refine hl_take_np 12 (by kernel_rfl) (by kernel_rfl) rfl (by kernel_rfl) hsF (v := ?_) ?_ ?_
              rotate_left
              · (rintro x hx; clear hx; go_simp; try rfl)
              simp only [Act.put, List.setIfInBounds_toArray, List.set_cons_zero, List.set_cons_succ]
              refine hl_done (by kernel_rfl) ?_ _
              refine NoPanic.normal (HQ0.out _ _ ?_)
              clear HQ0
              have hfl : ([accE f t l tm n ps k, textB x0, [b8 1], numB (x2 + 1099511627776)] : List (List UInt8)).flatten = accE f t l tm n ps (k + 1) := by rw [HACC.out, HPE.out]; simp
              rw [← tot_flat, hfl] at hoF
              obtain ⟨pF, cF, rfl⟩ := ownsRow_shape hoF
              have hoG := ownsRow_mono hoF (Nat.le_trans (hg.trans hgN).size hszF)
              clear a0 a1 hfl hoF ra r9 rl rv rz
              go_wp2_with fail
              go_roundw
              case rel => exact ⟨k + 1, _, pF, cF, by omega, by go_num, rfl, Lib.hid rfl, hoG, (hg.trans hgN).trans hsF⟩
              case measure => simp [intOf]; omega
            · intro K hK
              go_simp
              have hs1 : G wn (WD.alloc (.cells #[.int .u8 (IntKind.u8.wrap 1)] 5)) := hsD.alloc _
              have rl : Rdr (WD.alloc (.cells #[.int .u8 (IntKind.u8.wrap 1)] 5)) 1 (.slice (some ⟨WD.heap.size, 0, none⟩) 1 1) 1 (bys [b8 1]) := by rw [bys_w]; exact rdr_alloc WD [.int .u8 (IntKind.u8.wrap 1)] 5 (0, 0) 1 1 1 rfl
              have z9 := hs1.cell a0
              refine hK _ _ (fun _ => hs1) ?_
              clear hK K
              simp only [Act.put, List.setIfInBounds_toArray, List.set_cons_zero, List.set_cons_succ]
              generalize (WD.alloc (.cells #[.int .u8 (IntKind.u8.wrap 1)] 5)) = W9 at hs1 rl z9 ⊢
              refine hl_stepW 3 (by kernel_rfl) rfl (by kernel_rfl) ?_
              intro K hK
              go_simp
              refine (text_any x0 W9 (by omega)).mono ?_
              rintro e W8 ⟨v9, rfl, ho9, hgx⟩
              have hs2 : G wn W8 := hs1.trans hgx
              have rl := rl.g hgx
              have r9 := rdr_of_owns ho9
              obtain ⟨p9, q9, rfl⟩ := ownsRow_shape ho9
              refine hK _ _ (fun _ => hs2) ?_
              clear hK K ho9 hgx z9
              simp only [Act.put, List.setIfInBounds_toArray, List.set_cons_zero, List.set_cons_succ]
              refine hl_stepW 10 (by kernel_rfl) rfl (by kernel_rfl) ?_
              intro K hK
              go_simp
              have hsA : G wn (W8.alloc (.cells #[.slice p' m c', .slice p9 (1 + x0.size) q9, .slice (some ⟨WD.heap.size, 0, none⟩) 1 1, .slice pn 6 qn] 22)) := hs2.alloc _
              refine hK _ _ (fun _ => hsA) ?_
              clear hK K
              simp only [Act.put, List.setIfInBounds_toArray, List.set_cons_zero, List.set_cons_succ]
              have ra : Rdr W8 1 (.slice p' m c') (accE f t l tm n ps k).length (bys (accE f t l tm n ps k)) := by rw [← HMM.out]; exact (rdr_of_owns HOWN.out).g (hgN.trans hs2)
              have rv := rv.g hs2
              have rz : RowsB (W8.alloc (.cells #[.slice p' m c', .slice p9 (1 + x0.size) q9, .slice (some ⟨WD.heap.size, 0, none⟩) 1 1, .slice pn 6 qn] 22)) (.slice (some ⟨W8.heap.size, 0, none⟩) 4 4) [accE f t l tm n ps k, textB x0, [b8 1], numB (x2 + 1099511627776)] := rowsB_one (rdr_alloc W8 [.slice p' m c', .slice p9 (1 + x0.size) q9, .slice (some ⟨WD.heap.size, 0, none⟩) 1 1, .slice pn 6 qn] 22 (0, 0) 1 4 4 rfl) rfl (by
                intro k u bs hu hb
                rcases k with _ | _ | _ | _ | k
                · simp at hu hb; subst hu; subst hb; exact ra.alloc _
                · simp at hu hb; subst hu; subst hb; rw [textB_len]; exact r9.alloc _
                · simp at hu hb; subst hu; subst hb; exact rl.alloc _
                · simp at hu hb; subst hu; subst hb; exact rv.alloc _
                · simp at hu)
              refine hl_stepW 11 (by kernel_rfl) rfl (by kernel_rfl) ?_
              intro K hK
              go_simp
              refine (concat_any [accE f t l tm n ps k, textB x0, [b8 1], numB (x2 + 1099511627776)] _ _ rz (by simp) (by simp only [tot, List.map_cons, List.map_nil, textB_len, List.sum_cons, List.sum_nil, numB, List.length_cons, List.length_nil, ← HMM.out]; omega)).mono ?_
              rintro e WF ⟨v, rfl, hoF, hgF⟩
              have hsF : G wn WF := hsA.trans hgF
              have hszF := hsA.size
              refine hK _ _ (fun _ => hsF) ?_
              clear hK K
              simp only [Act.put, List.setIfInBounds_toArray, List.set_cons_zero, List.set_cons_succ]
              refine hl_take_np 12 (by kernel_rfl) (by kernel_rfl) rfl (by kernel_rfl) hsF (v := ?_) ?_ ?_
              rotate_left
              · (rintro x hx; clear hx; go_simp; try rfl)
              simp only [Act.put, List.setIfInBounds_toArray, List.set_cons_zero, List.set_cons_succ]
              refine hl_done (by kernel_rfl) ?_ _
              refine NoPanic.normal (HQ0.out _ _ ?_)
              clear HQ0
              have hfl : ([accE f t l tm n ps k, textB x0, [b8 1], numB (x2 + 1099511627776)] : List (List UInt8)).flatten = accE f t l tm n ps (k + 1) := by rw [HACC.out, HPE.out]; simp
              rw [← tot_flat, hfl] at hoF
              obtain ⟨pF, cF, rfl⟩ := ownsRow_shape hoF
              have hoG := ownsRow_mono hoF (Nat.le_trans (hg.trans hgN).size hszF)
              clear a0 a1 hfl hoF ra r9 rl rv rz
              go_wp2_with fail
              go_roundw
              case rel => exact ⟨k + 1, _, pF, cF, by omega, by go_num, rfl, Lib.hid rfl, hoG, (hg.trans hgN).trans hsF⟩
              case measure => simp [intOf]; omega
          · subst hk2
            clear zn
            have rv := rt
            have HPE := Lib.hid (show propE (x0, 2, x2, x3) = textB x0 ++ [b8 2] ++ textB x3 by simp [propE])
            clear rt
            go_upto_region 11 with fail
            obtain ⟨WD, hWD⟩ : ∃ WD : World, WD = wt.drew := ⟨_, rfl⟩
            have hsD : G wt WD := by rw [hWD]; exact (G.refl wt).drew
            refine region_hlW (fun w' => G wt w') 99 13 (by kernel_rfl) rfl ?_
            intro Q0 HQ0
            simp only [List.replicate_succ, List.replicate_zero]
            rw [← hWD]
            clear hWD
            refine hl_take_np 0 (by kernel_rfl) (by kernel_rfl) rfl (by kernel_rfl) hsD (v := ?_) ?_ ?_
            rotate_left
            · (rintro x hx; have k1 := hx.cell a0; have k2 := hx.cell a1; clear hx; go_simp; try rfl)
            simp only [Act.put, List.setIfInBounds_toArray, List.set_cons_zero, List.set_cons_succ]
            refine hl_take_np 1 (by kernel_rfl) (by kernel_rfl) rfl (by kernel_rfl) hsD (v := ?_) ?_ ?_
            rotate_left
            · (rintro x hx; have k1 := hx.cell a0; have k2 := hx.cell a1; clear hx; go_simp; try rfl)
            simp only [Act.put, List.setIfInBounds_toArray, List.set_cons_zero, List.set_cons_succ]
            refine hl_take_np 2 (by kernel_rfl) (by kernel_rfl) rfl (by kernel_rfl) hsD (v := ?_) ?_ ?_
            rotate_left
            · (rintro x hx; have k1 := hx.cell a0; have k2 := hx.cell a1; clear hx; go_simp; try rfl)
            simp only [Act.put, List.setIfInBounds_toArray, List.set_cons_zero, List.set_cons_succ]
            refine hl_take_np 4 (by kernel_rfl) (by kernel_rfl) rfl (by kernel_rfl) hsD (v := ?_) ?_ ?_
            rotate_left
            · (rintro x hx; have k1 := hx.cell a0; have k2 := hx.cell a1; clear hx; go_simp; try rfl)
            simp only [Act.put, List.setIfInBounds_toArray, List.set_cons_zero, List.set_cons_succ]
            refine hl_take_np 5 (by kernel_rfl) (by kernel_rfl) rfl (by kernel_rfl) hsD (v := ?_) ?_ ?_
            rotate_left
            · (rintro x hx; have k1 := hx.cell a0; have k2 := hx.cell a1; clear hx; go_simp; try rfl)
            simp only [Act.put, List.setIfInBounds_toArray, List.set_cons_zero, List.set_cons_succ]
            refine hl_take_np 6 (by kernel_rfl) (by kernel_rfl) rfl (by kernel_rfl) hsD (v := ?_) ?_ ?_
            rotate_left
            · (rintro x hx; have k1 := hx.cell a0; have k2 := hx.cell a1; clear hx; go_simp; try rfl)
            simp only [Act.put, List.setIfInBounds_toArray, List.set_cons_zero, List.set_cons_succ]
            refine hl_take_np 7 (by kernel_rfl) (by kernel_rfl) rfl (by kernel_rfl) hsD (v := ?_) ?_ ?_
            rotate_left
            · (rintro x hx; have k1 := hx.cell a0; have k2 := hx.cell a1; clear hx; go_simp; try rfl)
            simp only [Act.put, List.setIfInBounds_toArray, List.set_cons_zero, List.set_cons_succ]
            refine hl_take_np 9 (by kernel_rfl) (by kernel_rfl) rfl (by kernel_rfl) hsD (v := ?_) ?_ ?_
            rotate_left
            · (rintro x hx; have k1 := hx.cell a0; have k2 := hx.cell a1; clear hx; go_simp; try rfl)
            simp only [Act.put, List.setIfInBounds_toArray, List.set_cons_zero, List.set_cons_succ]
            refine hl_twoW 3 8 (by kernel_rfl) rfl rfl (by kernel_rfl) (by kernel_rfl) ?_ ?_
            · intro K hK
              go_simp
              refine (text_any x0 WD (by omega)).mono ?_
              rintro e W9 ⟨v9, rfl, ho9, hgx⟩
              have hs1 : G wt W9 := hsD.trans hgx
              have r9 := rdr_of_owns ho9
              obtain ⟨p9, q9, rfl⟩ := ownsRow_shape ho9
              refine hK _ _ (fun _ => hs1) ?_
              clear hK K ho9 hgx
              simp only [Act.put, List.setIfInBounds_toArray, List.set_cons_zero, List.set_cons_succ]
              refine hl_stepW 8 (by kernel_rfl) rfl (by kernel_rfl) ?_
              intro K hK
              go_simp
              have hs2 : G wt (W9.alloc (.cells #[.int .u8 (IntKind.u8.wrap 2)] 5)) := hs1.alloc _
              have rl : Rdr (W9.alloc (.cells #[.int .u8 (IntKind.u8.wrap 2)] 5)) 1 (.slice (some ⟨W9.heap.size, 0, none⟩) 1 1) 1 (bys [b8 2]) := by rw [bys_w]; exact rdr_alloc W9 [.int .u8 (IntKind.u8.wrap 2)] 5 (0, 0) 1 1 1 rfl
              have r9 := r9.g ((G.refl W9).alloc (.cells #[.int .u8 (IntKind.u8.wrap 2)] 5))
              refine hK _ _ (fun _ => hs2) ?_
              clear hK K
              simp only [Act.put, List.setIfInBounds_toArray, List.set_cons_zero, List.set_cons_succ]
              generalize (W9.alloc (.cells #[.int .u8 (IntKind.u8.wrap 2)] 5)) = W8 at hs2 rl r9 ⊢
              refine hl_stepW 10 (by kernel_rfl) rfl (by kernel_rfl) ?_
              intro K hK
              go_simp
              have hsA : G wt (W8.alloc (.cells #[.slice p' m c', .slice p9 (1 + x0.size) q9, .slice (some ⟨W9.heap.size, 0, none⟩) 1 1, .slice pt (1 + x3.size) qt] 22)) := hs2.alloc _
              refine hK _ _ (fun _ => hsA) ?_
              clear hK K
              simp only [Act.put, List.setIfInBounds_toArray, List.set_cons_zero, List.set_cons_succ]
              have ra : Rdr W8 1 (.slice p' m c') (accE f t l tm n ps k).length (bys (accE f t l tm n ps k)) := by rw [← HMM.out]; exact (rdr_of_owns HOWN.out).g (hgT.trans hs2)
              have rv := rv.g hs2
              have rz : RowsB (W8.alloc (.cells #[.slice p' m c', .slice p9 (1 + x0.size) q9, .slice (some ⟨W9.heap.size, 0, none⟩) 1 1, .slice pt (1 + x3.size) qt] 22)) (.slice (some ⟨W8.heap.size, 0, none⟩) 4 4) [accE f t l tm n ps k, textB x0, [b8 2], textB x3] := rowsB_one (rdr_alloc W8 [.slice p' m c', .slice p9 (1 + x0.size) q9, .slice (some ⟨W9.heap.size, 0, none⟩) 1 1, .slice pt (1 + x3.size) qt] 22 (0, 0) 1 4 4 rfl) rfl (by
                intro k u bs hu hb
                rcases k with _ | _ | _ | _ | k
                · simp at hu hb; subst hu; subst hb; exact ra.alloc _
                · simp at hu hb; subst hu; subst hb; rw [textB_len]; exact r9.alloc _
                · simp at hu hb; subst hu; subst hb; exact rl.alloc _
                · simp at hu hb; subst hu; subst hb; rw [textB_len]; exact rv.alloc _
                · simp at hu)
              refine hl_stepW 11 (by kernel_rfl) rfl (by kernel_rfl) ?_
              intro K hK
              go_simp
              refine (concat_any [accE f t l tm n ps k, textB x0, [b8 2], textB x3] _ _ rz (by simp) (by simp only [tot, List.map_cons, List.map_nil, textB_len, List.sum_cons, List.sum_nil, numB, List.length_cons, List.length_nil, ← HMM.out]; omega)).mono ?_
              rintro e WF ⟨v, rfl, hoF, hgF⟩
              have hsF : G wt WF := hsA.trans hgF
              have hszF := hsA.size
              refine hK _ _ (fun _ => hsF) ?_
              clear hK K
              simp only [Act.put, List.setIfInBounds_toArray, List.set_cons_zero, List.set_cons_succ]
              refine hl_take_np 12 (by kernel_rfl) (by kernel_rfl) rfl (by kernel_rfl) hsF (v := ?_) ?_ ?_
              rotate_left
              · (rintro x hx; clear hx; go_simp; try rfl)
              simp only [Act.put, List.setIfInBounds_toArray, List.set_cons_zero, List.set_cons_succ]
              refine hl_done (by kernel_rfl) ?_ _
              refine NoPanic.normal (HQ0.out _ _ ?_)
              clear HQ0
              have hfl : ([accE f t l tm n ps k, textB x0, [b8 2], textB x3] : List (List UInt8)).flatten = accE f t l tm n ps (k + 1) := by rw [HACC.out, HPE.out]; simp
              rw [← tot_flat, hfl] at hoF
              obtain ⟨pF, cF, rfl⟩ := ownsRow_shape hoF
              have hoG := ownsRow_mono hoF (Nat.le_trans (hg.trans hgT).size hszF)
              clear a0 a1 hfl hoF ra r9 rl rv rz
              go_wp2_with fail
              go_roundw
              case rel => exact ⟨k + 1, _, pF, cF, by omega, by go_num, rfl, Lib.hid rfl, hoG, (hg.trans hgT).trans hsF⟩
              case measure => simp [intOf]; omega
            · intro K hK
              go_simp
              have hs1 : G wt (WD.alloc (.cells #[.int .u8 (IntKind.u8.wrap 2)] 5)) := hsD.alloc _
              have rl : Rdr (WD.alloc (.cells #[.int .u8 (IntKind.u8.wrap 2)] 5)) 1 (.slice (some ⟨WD.heap.size, 0, none⟩) 1 1) 1 (bys [b8 2]) := by rw [bys_w]; exact rdr_alloc WD [.int .u8 (IntKind.u8.wrap 2)] 5 (0, 0) 1 1 1 rfl
              have z9 := hs1.cell a0
              refine hK _ _ (fun _ => hs1) ?_
              clear hK K
              simp only [Act.put, List.setIfInBounds_toArray, List.set_cons_zero, List.set_cons_succ]
              generalize (WD.alloc (.cells #[.int .u8 (IntKind.u8.wrap 2)] 5)) = W9 at hs1 rl z9 ⊢
              refine hl_stepW 3 (by kernel_rfl) rfl (by kernel_rfl) ?_
              intro K hK
              go_simp
              refine (text_any x0 W9 (by omega)).mono ?_
              rintro e W8 ⟨v9, rfl, ho9, hgx⟩
              have hs2 : G wt W8 := hs1.trans hgx
              have rl := rl.g hgx
              have r9 := rdr_of_owns ho9
              obtain ⟨p9, q9, rfl⟩ := ownsRow_shape ho9
              refine hK _ _ (fun _ => hs2) ?_
              clear hK K ho9 hgx z9
              simp only [Act.put, List.setIfInBounds_toArray, List.set_cons_zero, List.set_cons_succ]
              refine hl_stepW 10 (by kernel_rfl) rfl (by kernel_rfl) ?_
              intro K hK
              go_simp
              have hsA : G wt (W8.alloc (.cells #[.slice p' m c', .slice p9 (1 + x0.size) q9, .slice (some ⟨WD.heap.size, 0, none⟩) 1 1, .slice pt (1 + x3.size) qt] 22)) := hs2.alloc _
              refine hK _ _ (fun _ => hsA) ?_
              clear hK K
              simp only [Act.put, List.setIfInBounds_toArray, List.set_cons_zero, List.set_cons_succ]
              have ra : Rdr W8 1 (.slice p' m c') (accE f t l tm n ps k).length (bys (accE f t l tm n ps k)) := by rw [← HMM.out]; exact (rdr_of_owns HOWN.out).g (hgT.trans hs2)
              have rv := rv.g hs2
              have rz : RowsB (W8.alloc (.cells #[.slice p' m c', .slice p9 (1 + x0.size) q9, .slice (some ⟨WD.heap.size, 0, none⟩) 1 1, .slice pt (1 + x3.size) qt] 22)) (.slice (some ⟨W8.heap.size, 0, none⟩) 4 4) [accE f t l tm n ps k, textB x0, [b8 2], textB x3] := rowsB_one (rdr_alloc W8 [.slice p' m c', .slice p9 (1 + x0.size) q9, .slice (some ⟨WD.heap.size, 0, none⟩) 1 1, .slice pt (1 + x3.size) qt] 22 (0, 0) 1 4 4 rfl) rfl (by
                intro k u bs hu hb
                rcases k with _ | _ | _ | _ | k
                · simp at hu hb; subst hu; subst hb; exact ra.alloc _
                · simp at hu hb; subst hu; subst hb; rw [textB_len]; exact r9.alloc _
                · simp at hu hb; subst hu; subst hb; exact rl.alloc _
                · simp at hu hb; subst hu; subst hb; rw [textB_len]; exact rv.alloc _
                · simp at hu)
              refine hl_stepW 11 (by kernel_rfl) rfl (by kernel_rfl) ?_
              intro K hK
              go_simp
              refine (concat_any [accE f t l tm n ps k, textB x0, [b8 2], textB x3] _ _ rz (by simp) (by simp only [tot, List.map_cons, List.map_nil, textB_len, List.sum_cons, List.sum_nil, numB, List.length_cons, List.length_nil, ← HMM.out]; omega)).mono ?_
              rintro e WF ⟨v, rfl, hoF, hgF⟩
              have hsF : G wt WF := hsA.trans hgF
              have hszF := hsA.size
              refine hK _ _ (fun _ => hsF) ?_
              clear hK K
              simp only [Act.put, List.setIfInBounds_toArray, List.set_cons_zero, List.set_cons_succ]
              refine hl_take_np 12 (by kernel_rfl) (by kernel_rfl) rfl (by kernel_rfl) hsF (v := ?_) ?_ ?_
              rotate_left
              · (rintro x hx; clear hx; go_simp; try rfl)
              simp only [Act.put, List.setIfInBounds_toArray, List.set_cons_zero, List.set_cons_succ]
              refine hl_done (by kernel_rfl) ?_ _
              refine NoPanic.normal (HQ0.out _ _ ?_)
              clear HQ0
              have hfl : ([accE f t l tm n ps k, textB x0, [b8 2], textB x3] : List (List UInt8)).flatten = accE f t l tm n ps (k + 1) := by rw [HACC.out, HPE.out]; simp
              rw [← tot_flat, hfl] at hoF
              obtain ⟨pF, cF, rfl⟩ := ownsRow_shape hoF
              have hoG := ownsRow_mono hoF (Nat.le_trans (hg.trans hgT).size hszF)
              clear a0 a1 hfl hoF ra r9 rl rv rz
              go_wp2_with fail
              go_roundw
              case rel => exact ⟨k + 1, _, pF, cF, by omega, by go_num, rfl, Lib.hid rfl, hoG, (hg.trans hgT).trans hsF⟩
              case measure => simp [intOf]; omega
        · have hkn : ¬ (k : Int) < (n : Int) := by omega
          have HB := Lib.hid (show accE f t l tm n ps k = putB f t l tm ps by rw [accE, List.take_of_length_le (by have := HN.out; omega), HN.out]; rfl)
          rw [HB.out] at hown HMM
          rw [HMM.out] at hown ⊢
          have HOWN := Lib.hid hown
          clear hown
          go_wp2_with fail
          refine bodyPost_ret (v := .tuple #[.slice p' (putB f t l tm ps).length c', .int .i64 0]) ?_ rfl ⟨_, rfl, by rw [HPUT.out]; exact HOWN.out, hg⟩
          simp [results, Try.results16, go_sem]
  · have HPUT := Lib.hid (HPUT.out.trans (if_neg hc0))
    clear hcc c0 c1 c2 c3 c4
    go_wp2_with fail
    refine bodyPost_ret (v := .tuple #[.slice none 0 0, .int .i64 c]) ?_ rfl ⟨.slice none 0 0, rfl, by rw [HPUT.out]; exact World.ownsRow_nil _ _ _ _, hg0⟩
    simp [results, Try.results16, go_sem]
end Go.Proofs.Ytfdajignnnhnmaa
