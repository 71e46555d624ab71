/- the buffer in memory; its smaller functions -/
import Derived.Test.YthhmmjpgefinmaaBufQ
import Derived.Test.YthhmmjpgefinmaaEndA
set_option maxRecDepth 10000
namespace Go.Proofs.Ythhmmjpgefinmaa
set_option linter.unusedVariables false
set_option linter.unusedSimpArgs false
open Go.RowKit Go.Shelf
attribute [local go_sem] Oper.semAt_some

set_option maxHeartbeats 1000000 in
theorem copied_any (E : Edg) (w : World) (h : EdgAt w E) (hn : E.ps.length ≤ 1000000) :
    Calls Try.prog 37 #[ev E] w fun e w' => ∃ u, e = .returned (ev (lentE E u)) ∧ OwnE w' w.heap.size (lentE E u) ∧ G w w' := by
  obtain ⟨f, t, l, tm, v, ps⟩ := E
  obtain ⟨-, p, c, hv, -⟩ := id h.rdr
  simp only at hv hn
  subst hv
  obtain ⟨W1, hW1⟩ : ∃ X : World, X = (w.alloc (.cells #[.string f, .string t, .string l, .int .i64 tm, .slice p ps.length c] 51)).alloc (.cells #[.string ⟨#[]⟩, .string ⟨#[]⟩, .string ⟨#[]⟩, .int .i64 0, .slice none 0 0] 51) := ⟨_, rfl⟩
  obtain ⟨hg1, hb1, hb2⟩ := boxes w #[.string f, .string t, .string l, .int .i64 tm, .slice p ps.length c] #[.string ⟨#[]⟩, .string ⟨#[]⟩, .string ⟨#[]⟩, .int .i64 0, .slice none 0 0] 51
  rw [← hW1] at hg1 hb1 hb2
  have HCP := Lib.hid (cloneP_any ps (.slice p ps.length c) W1 ((h.g hg1).rdr) hn)
  have H := Lib.hid h
  have HW1 := Lib.hid hW1
  have HB1 := Lib.hid hb1
  have HB2 := Lib.hid hb2
  have HG1 := Lib.hid hg1
  obtain ⟨n, hnn⟩ : ∃ n, n = ps.length := ⟨_, rfl⟩
  rw [← hnn] at HCP HW1 HB1
  have HN := Lib.hid hnn
  unfold ev
  simp only
  rw [← hnn]
  clear h hW1 hb1 hb2 hg1 hnn hn
  go_enter Try.func37, Try.ntmps37
  go_upto_region 1 with fail
  try simp only [World.size_alloc]
  rw [← HW1.out]
  obtain ⟨a0, a1, a2, a3, a4⟩ := cells5 HB1.out
  go_wp2_with fail
  refine HCP.out.mono ?_
  rintro e W2 ⟨u, rfl, hown, hg2⟩
  have hb1 := (hg2.block (heap_lt HB1.out)).trans HB1.out
  have hb2 := (hg2.block (heap_lt HB2.out)).trans HB2.out
  have hz1 := heap_lt HB1.out
  have hz2 := heap_lt HB2.out
  have y4 : W2.frozen? ⟨w.heap.size, 4, none⟩ = false := by unfold World.frozen?; rw [hb1]; simp
  obtain ⟨up, uc, rfl⟩ := ownsRow_shape hown
  have HO := Lib.hid hown
  obtain ⟨W3, hW3⟩ : ∃ X : World, X = W2.setCell ⟨w.heap.size, 4, none⟩ (.slice up n uc) := ⟨_, rfl⟩
  have hb3 : W3.heap[w.heap.size]? = some (.cells #[.string f, .string t, .string l, .int .i64 tm, .slice up n uc] 51 (0, 0)) := by rw [hW3]; exact heap_setCell_at _ _ 4 _ _ _ _ hb1
  have g3 : G w W3 := by rw [hW3]; exact (HG1.out.trans hg2).setCell (Nat.le_refl _) _
  have hc3 : W3.heap[w.heap.size + 1]? = some (.cells #[.string ⟨#[]⟩, .string ⟨#[]⟩, .string ⟨#[]⟩, .int .i64 0, .slice none 0 0] 51 (0, 0)) := by rw [hW3]; exact ((Fr.refl (fun q => q = w.heap.size) W2).setCell (p := ⟨w.heap.size, 4, none⟩) (.inl rfl) _).block _ (heap_lt hb2) (by omega) |>.trans hb2
  have hown3 : W3.ownsRow W1.heap.size 105 4 (.slice up n uc) n (pcells ps) := by rw [hW3]; exact ownsRow_setCell_below hown hz1 _
  have HW3 := Lib.hid hW3
  have HB3 := Lib.hid hb3
  have HC3 := Lib.hid hc3
  have HG3 := Lib.hid g3
  have HO3 := Lib.hid hown3
  have z4 := hg2.cell a4
  clear a0 a1 a2 a3 a4 hb1 hb2 hb3 hc3 g3 hown hown3 hW3 hg2 HO HCP
  go_upto_region 2 with fail
  rw [← HW3.out]
  clear z4
  obtain ⟨a0, a1, a2, a3, a4⟩ := cells5 HB3.out
  obtain ⟨c0, c1, c2, c3, c4⟩ := cells5 HC3.out
  have hb := HC3.out
  have y0 : W3.frozen? ⟨w.heap.size + 1, 0, none⟩ = false := by unfold World.frozen?; rw [hb]; simp
  have y1 : W3.frozen? ⟨w.heap.size + 1, 1, none⟩ = false := by unfold World.frozen?; rw [hb]; simp
  have y2 : W3.frozen? ⟨w.heap.size + 1, 2, none⟩ = false := by unfold World.frozen?; rw [hb]; simp
  have y3 : W3.frozen? ⟨w.heap.size + 1, 3, none⟩ = false := by unfold World.frozen?; rw [hb]; simp
  have y5 : W3.frozen? ⟨w.heap.size + 1, 4, none⟩ = false := by unfold World.frozen?; rw [hb]; simp
  obtain ⟨hgF, hrF⟩ := set5 HG3.out (show w.heap.size ≤ w.heap.size + 1 by omega) hb (.string f) (.string t) (.string l) (.int .i64 tm) (.slice up n uc)
  have hfF : G W1 W1 := G.refl _
  obtain ⟨q0, q1, q2, q3, q4⟩ := cells5 hrF
  obtain ⟨WF, hWF⟩ : ∃ X : World, X = (((((W3.setCell ⟨w.heap.size + 1, 0, none⟩ (.string f)).setCell ⟨w.heap.size + 1, 1, none⟩ (.string t)).setCell ⟨w.heap.size + 1, 2, none⟩ (.string l)).setCell ⟨w.heap.size + 1, 3, none⟩ (.int .i64 tm)).setCell ⟨w.heap.size + 1, 4, none⟩ (.slice up n uc)) := ⟨_, rfl⟩
  have HOF := Lib.hid (show OwnE WF w.heap.size (lentE ⟨f, t, l, tm, .slice p ps.length c, ps⟩ (.slice up n uc)) from by
    refine ⟨?_, H.out.n, H.out.ps, H.out.f, H.out.t, H.out.l⟩
    show WF.ownsRow w.heap.size 105 4 (.slice up n uc) ps.length (pcells ps)
    rw [← HN.out, hWF]
    exact ownsRow_mono (ownsRow_setCell_below (ownsRow_setCell_below (ownsRow_setCell_below (ownsRow_setCell_below (ownsRow_setCell_below HO3.out hz2 _) hz2 _) hz2 _) hz2 _) hz2 _) HG1.out.size)
  have HWF := Lib.hid hWF
  rw [← hWF] at hgF q0 q1 q2 q3 q4
  clear hb hrF hWF hfF
  go_wp2_with fail
  rw [← HWF.out]
  refine bodyPost_ret (v := .agg #[.string f, .string t, .string l, .int .i64 tm, .slice up n uc]) ?_ rfl ⟨_, rfl, HOF.out, hgF⟩
  simp [results, Try.results37, go_sem, q0, q1, q2, q3, q4]

/-- the pieces of a buffer -/
structure Bp where
  H : Nat
  M : Nat
  v : Value
  hs : List Item
  L : List Item
  SH : Nat → Prop
  m : Int → Value
  ks : List Int
  R : Int → List Edg
/-- a buffer of the edges s: S: the blocks it writes; P: those of the props -/
structure BufIn (S P : Nat → Prop) (W : World) (B : Nat) (s : List Out) (p : Bp) : Prop where
  box : W.heap[B]? = some (.cells #[.pointer (some ⟨p.H, 0, none⟩), .map (some p.M)] 81 (0, 0))
  hat : HeapAt p.SH W p.H p.v p.hs
  hk : HeapKeys p.hs p.ks p.L
  map : MapS W p.M p.m p.ks
  rows : ∀ t, RowV W (p.m t) (p.R t)
  out : ∀ t, (p.R t).map outE = gr t s
  keys : ∀ t, t ∈ p.ks ↔ ∃ o ∈ s, otm o = t
  str : OStr s
  props : ∀ t, ∀ E ∈ p.R t, EdgAt W E ∧ ∀ g, E.v.ownBlock = some g → P g
  apart : ∀ t u g, (p.m t).ownBlock = some g → (p.m u).ownBlock = some g → t = u
  sB : S B
  sM : S p.M
  sH : ∀ k, p.SH k → S k
  sR : ∀ t g, (p.m t).ownBlock = some g → S g
  hB : ¬ p.SH B
  hM : ¬ p.SH p.M
  hR : ∀ t g, (p.m t).ownBlock = some g → ¬ p.SH g
  rng : ∀ o ∈ s, -9223372036854775808 ≤ otm o ∧ otm o ≤ 9223372036854775807
  sp : ∀ k, S k → ¬ P k
  lt : ∀ k, S k ∨ P k → k < W.heap.size
def BufAt (S P : Nat → Prop) (W : World) (B : Nat) (s : List Out) : Prop := ∃ p, BufIn S P W B s p
theorem BufIn.fr {S P T : Nat → Prop} {W W' : World} {B : Nat} {s : List Out} {p : Bp} (h : BufIn S P W B s p) (hf : Fr T W W') (hd : ∀ k, S k ∨ P k → ¬ T k) : BufIn S P W' B s p :=
  ⟨(hf.block B (h.lt B (.inl h.sB)) (hd B (.inl h.sB))).trans h.box, h.hat.fr hf (fun k hk => hd k (.inl (h.sH k hk))), h.hk, h.map.fr hf (hd _ (.inl h.sM)), fun t => (h.rows t).fr hf (fun g hg => hd g (.inl (h.sR t g hg))), h.out, h.keys, h.str,
    fun t E hE => ⟨(h.props t E hE).1.fr hf (fun g hg => hd g (.inr ((h.props t E hE).2 g hg))), (h.props t E hE).2⟩, h.apart, h.sB, h.sM, h.sH, h.sR, h.hB, h.hM, h.hR, h.rng, h.sp, fun k hk => Nat.lt_of_lt_of_le (h.lt k hk) hf.size⟩
theorem BufIn.g {S P : Nat → Prop} {W W' : World} {B : Nat} {s : List Out} {p : Bp} (h : BufIn S P W B s p) (hg : G W W') : BufIn S P W' B s p := h.fr (hg.fr (fun _ => False)) (fun _ _ x => x)
theorem BufIn.ne {S P : Nat → Prop} {W : World} {B : Nat} {s : List Out} {p : Bp} (h : BufIn S P W B s p) : B ≠ p.M ∧ ∀ t g, (p.m t).ownBlock = some g → g ≠ B ∧ g ≠ p.M := by
  obtain ⟨D, ⟨es, clock, hb, -⟩, -⟩ := h.map.own
  refine ⟨fun e => ?_, fun t g hg => ?_⟩
  · have := h.box; rw [e, hb] at this; cases this
  · rcases h.rows t with ⟨e, -⟩ | ⟨g', off, c, e, hr⟩
    · rw [e] at hg; cases hg
    · rw [e] at hg
      cases hg
      obtain ⟨A, Z, hb2, -⟩ := hr.blk
      refine ⟨fun e => ?_, fun e => ?_⟩
      · have h1 := h.box
        rw [← e, hb2] at h1
        have h2 := (Obj.cells.inj (Option.some.inj h1)).2.1
        revert h2; decide
      · have e2 : g' = p.M := e
        rw [e2, hb] at hb2; cases hb2
theorem BufIn.len {S P : Nat → Prop} {W : World} {B : Nat} {s : List Out} {p : Bp} (h : BufIn S P W B s p) (t : Int) : (p.R t).length = (gr t s).length := by rw [← h.out t, List.length_map]
theorem BufIn.lenle {S P : Nat → Prop} {W : World} {B : Nat} {s : List Out} {p : Bp} (h : BufIn S P W B s p) (t : Int) : (p.R t).length ≤ s.length := by rw [h.len t]; exact List.length_filter_le _ _
theorem nodup_len : ∀ {l m : List Int}, l.Nodup → (∀ x ∈ l, x ∈ m) → l.length ≤ m.length
  | [], m, _, _ => Nat.zero_le _
  | a :: l, m, h, hs => by
    have h2 := List.nodup_cons.1 h
    have ha := hs a (List.mem_cons_self ..)
    have ih := nodup_len (l := l) (m := m.erase a) h2.2 (fun x hx => (List.mem_erase_of_ne (fun e => h2.1 (by rw [← e]; exact hx))).2 (hs x (List.mem_cons_of_mem _ hx)))
    rw [List.length_erase_of_mem ha] at ih
    have := List.length_pos_of_mem ha
    rw [List.length_cons]
    omega
theorem BufIn.klen {S P : Nat → Prop} {W : World} {B : Nat} {s : List Out} {p : Bp} (h : BufIn S P W B s p) : p.ks.length ≤ s.length := by
  have h1 := nodup_len (m := s.map otm) h.map.nd (fun t ht => by
    obtain ⟨o, ho, he⟩ := (h.keys t).1 ht
    exact List.mem_map.2 ⟨o, ho, he⟩)
  simpa using h1
theorem BufIn.hlen {S P : Nat → Prop} {W : World} {B : Nat} {s : List Out} {p : Bp} (h : BufIn S P W B s p) : p.hs.length ≤ s.length := by
  have h2 := nodup_len (m := p.ks) h.hk.2.1 (fun t ht => (h.hk.2.2.2 t).1 ht)
  have h3 := h.hk.1.len
  have h4 := h.klen
  simp at h2
  omega
/-- one time's row, the heap and the map have turned -/
theorem BufIn.upd {S P P' T : Nat → Prop} {W W' : World} {B : Nat} {s s' : List Out} {p : Bp} (h : BufIn S P W B s p) (hf : Fr T W W') (t : Int) (hT : ∀ k, k < W.heap.size → T k → p.SH k ∨ k = p.M ∨ (p.m t).ownBlock = some k)
    (SH' : Nat → Prop) (hv' : Value) (hs' L0 : List Item) (ks' : List Int) (v' : Value) (L' : List Edg)
    (hat : HeapAt SH' W' p.H hv' hs') (hgr : ∀ k, SH' k → p.SH k ∨ W.heap.size ≤ k) (hh : HeapKeys hs' ks' L0) (hm : MapS W' p.M (mset p.m t v') ks') (hr : RowV W' v' L') (ho : L'.map outE = gr t s') (hoth : ∀ u, u ≠ t → gr u s' = gr u s)
    (hstr : OStr s') (hk : ∀ u, u ∈ ks' ↔ ∃ o ∈ s', otm o = u) (hrng : ∀ o ∈ s', -9223372036854775808 ≤ otm o ∧ otm o ≤ 9223372036854775807) (hp : ∀ E ∈ L', EdgAt W' E ∧ ∀ g, E.v.ownBlock = some g → P' g) (hP : ∀ k, P k → P' k) (hP2 : ∀ k, P' k → P k ∨ W.heap.size ≤ k) (hPl : ∀ k, P' k → k < W'.heap.size)
    (hv : ∀ g, v'.ownBlock = some g → ((p.m t).ownBlock = some g ∨ W.heap.size ≤ g) ∧ ¬ SH' g ∧ ¬ P' g) (hSP : ∀ k, SH' k → ¬ P' k) :
    ∃ S', BufIn S' P' W' B s' ⟨p.H, p.M, hv', hs', L0, SH', mset p.m t v', ks', fun u => if u = t then L' else p.R u⟩ ∧ (∀ k, S' k → S k ∨ W.heap.size ≤ k) ∧ (∀ k, S k → S' k) ∧ ∀ k, S' k → S k ∨ SH' k ∨ v'.ownBlock = some k := by
  obtain ⟨hBM, hRn⟩ := h.ne
  have hTB : ¬ T B := fun hc => by
    rcases hT B (h.lt B (.inl h.sB)) hc with e | e | e
    · exact h.hB e
    · exact hBM e
    · exact (hRn t B e).1 rfl
  have hTR : ∀ u, u ≠ t → ∀ g, (p.m u).ownBlock = some g → ¬ T g := fun u hu g hg hc => by
    rcases hT g (h.lt g (.inl (h.sR u g hg))) hc with e | e | e
    · exact h.hR u g hg e
    · exact (hRn u g hg).2 e
    · exact hu (h.apart u t g hg e)
  have hTS : ∀ k, k < W.heap.size → T k → S k := fun k hk hc => by
    rcases hT k hk hc with e | e | e
    · exact h.sH k e
    · rw [e]; exact h.sM
    · exact h.sR t k e
  have hTP : ∀ k, P k → ¬ T k := fun k hk hc => h.sp k (hTS k (h.lt k (.inr hk)) hc) hk
  have hm1 : ∀ u, u ≠ t → mset p.m t v' u = p.m u := fun u hu => mset_ne _ _ hu
  have hvB : ∀ g, v'.ownBlock = some g → g < W'.heap.size := fun g hg => hr.lt hg
  have hold : ∀ u g, u ≠ t → (p.m u).ownBlock = some g → g < W.heap.size := fun u g hu hg => h.lt g (.inl (h.sR u g hg))
  refine ⟨fun k => S k ∨ SH' k ∨ v'.ownBlock = some k, ⟨(hf.block B (h.lt B (.inl h.sB)) hTB).trans h.box, hat, hh, hm, fun u => ?_, fun u => ?_, hk, hstr, fun u E hE => ?_, fun a b g ha hb => ?_, .inl h.sB, .inl h.sM, fun k hk => .inr (.inl hk), fun u g hg => ?_, fun hc => ?_, fun hc => ?_, fun u g hg hc => ?_, hrng, fun k hk hc => ?_, fun k hk => ?_⟩, fun k hk => ?_, fun k hk => .inl hk, fun k hk => hk⟩
  · by_cases hu : u = t
    · subst hu; simp only [mset_same, if_pos]; exact hr
    · simp only [hm1 u hu, if_neg hu]
      exact (h.rows u).fr hf (hTR u hu)
  · by_cases hu : u = t
    · subst hu; simp only [if_pos]; exact ho
    · simp only [if_neg hu]; rw [hoth u hu]; exact h.out u
  · by_cases hu : u = t
    · subst hu; simp only [if_pos] at hE; exact hp E hE
    · simp only [if_neg hu] at hE
      exact ⟨(h.props u E hE).1.fr hf (fun g hg => hTP g ((h.props u E hE).2 g hg)), fun g hg => hP g ((h.props u E hE).2 g hg)⟩
  · simp only at ha hb
    by_cases h1 : a = t
    · by_cases h2 : b = t
      · rw [h1, h2]
      · exfalso
        rw [h1, mset_same] at ha
        rw [hm1 b h2] at hb
        rcases (hv g ha).1 with e | e
        · exact h2 (h.apart b t g hb e)
        · have := hold b g h2 hb; omega
    · by_cases h2 : b = t
      · exfalso
        rw [h2, mset_same] at hb
        rw [hm1 a h1] at ha
        rcases (hv g hb).1 with e | e
        · exact h1 (h.apart a t g ha e)
        · have := hold a g h1 ha; omega
      · rw [hm1 a h1] at ha; rw [hm1 b h2] at hb
        exact h.apart a b g ha hb
  · simp only at hg
    by_cases hu : u = t
    · rw [hu, mset_same] at hg; exact .inr (.inr hg)
    · rw [hm1 u hu] at hg; exact .inl (h.sR u g hg)
  · rcases hgr B hc with e | e
    · exact h.hB e
    · have := h.lt B (.inl h.sB); omega
  · rcases hgr _ hc with e | e
    · exact h.hM e
    · have h9 := h.lt p.M (.inl h.sM)
      have h8 : W.heap.size ≤ p.M := e
      omega
  · simp only at hg
    by_cases hu : u = t
    · rw [hu, mset_same] at hg; exact (hv g hg).2.1 hc
    · rw [hm1 u hu] at hg
      rcases hgr _ hc with e | e
      · exact h.hR u g hg e
      · have := hold u g hu hg; omega
  · rcases hk with e | e | e
    · rcases hP2 k hc with e2 | e2
      · exact h.sp k e e2
      · have := h.lt k (.inl e); omega
    · exact hSP k e hc
    · exact (hv k e).2.2 hc
  · rcases hk with (e | e | e) | e
    · exact Nat.lt_of_lt_of_le (h.lt k (.inl e)) hf.size
    · exact hat.lt k e
    · exact hvB k e
    · exact hPl k e
  · rcases hk with e | e | e
    · exact .inl e
    · exact (hgr k e).imp (h.sH k) id
    · rcases (hv k e).1 with e2 | e2
      · exact .inl (h.sR t k e2)
      · exact .inr e2
theorem box2b {S P : Nat → Prop} {W : World} {B : Nat} {s : List Out} {p : Bp} (h : BufIn S P W B s p) : W.cell? ⟨B, 0, none⟩ = some (.pointer (some ⟨p.H, 0, none⟩)) ∧ W.cell? ⟨B, 1, none⟩ = some (.map (some p.M)) := by
  simp [World.cell?, h.box]
theorem bmade_any {W : World} {B M : Nat} (hb : W.cell? ⟨B, 1, none⟩ = some (.map (some M))) : Calls Try.prog 35 #[.pointer (some ⟨B, 0, none⟩)] W fun e w' => e = .returned (.bool true) ∧ W = w' := by
  have hne := run_neq_map_nil (P := Try.prog) W 79 3 40 (some M) Try.underlying79
  go_enter Try.func35, Try.ntmps35
  go_wp2
  go_ret
  exact ⟨rfl, rfl⟩
/-- the first time -/
theorem bfirst_any (S : Nat → Prop) (H : Nat) (v : Value) (hs : List Item) (w : World) (h : HeapAt S w H v hs) : Calls Try.prog 80 #[.agg #[.pointer (some ⟨H, 0, none⟩)]] w fun e w' => e = .returned (.tuple #[.int .i64 (at' hs 0).1, .bool (isB hs)]) ∧ G w w' := by
  have HF := Lib.hid (first_any S H v hs (w.alloc (.cells #[.pointer (some ⟨H, 0, none⟩)] 78)) (h.g ((G.refl w).alloc _)))
  have hg0 : G w (w.alloc (.cells #[.pointer (some ⟨H, 0, none⟩)] 78)) := (G.refl w).alloc _
  have hc := cell_alloc_at w [.pointer (some ⟨H, 0, none⟩)] 78 (0, 0) 0 _ rfl
  simp only [Nat.zero_add] at hc
  generalize at' hs 0 = x at HF ⊢
  obtain ⟨x0, x1⟩ := x
  simp only [iv] at HF
  clear h
  go_enter Try.func80, Try.ntmps80
  go_upto_region 1 with fail
  generalize (w.alloc (.cells #[.pointer (some ⟨H, 0, none⟩)] 78)) = W0 at HF hg0 hc ⊢
  go_wp2_with fail
  refine HF.out.mono ?_
  rintro e w1 ⟨rfl, hg⟩
  have hg1 := hg0.trans hg
  clear hc HF hg hg0
  go_wp2_with fail
  refine bodyPost_ret (v := .tuple #[.int .i64 x0, .bool (isB hs)]) ?_ rfl ⟨rfl, hg1.alloc _⟩
  simp [results, Try.results80, go_sem]
end Go.Proofs.Ythhmmjpgefinmaa
