/- laid together: RelE RelV RelT -/
import Derived.Test.YthhmmjpgefinmaaRelQ
import Derived.Test.YthhmmjpgefinmaaBufK
import Derived.Test.YthhmmjpgefinmaaBufO
set_option maxRecDepth 10000
namespace Go.Proofs.Ythhmmjpgefinmaa
set_option linter.unusedVariables false
set_option linter.unusedSimpArgs false
open Go.RowKit Go.Shelf
attribute [local go_sem] Oper.semAt_some

/-- an event: is it a close?, the edge, the query, the time -/
abbrev PEv := Bool × Out × Int × Int
def zO : Out := (⟨#[]⟩, ⟨#[]⟩, ⟨#[]⟩, 0, [])
def eE (o : Out) : PEv := (false, o, 0, otm o)
def eC (c : Int × Int) : PEv := (true, zO, c.2, c.1)
/-- what comes: of the edges s, between the closes -/
def evL : List Out → List (Int × Int) → Int → List PEv
  | s, [], b => (tw b s).map eE
  | s, c :: cs, b => (tw c.1 s).map eE ++ eC c :: evL (s.drop (tw c.1 s).length) cs b
def evP (a b : Int) (l : List Slt) (s : List Out) : List PEv := if (cntV a b l).2 = 0 then evL s (closesD a b l) b else []
/-- how many edges are told -/
def nE (l : List PEv) : Nat := l.countP (fun x => !x.1)
theorem nE_app (l m : List PEv) : nE (l ++ m) = nE l + nE m := List.countP_append
theorem nE_map (l : List Out) : nE (l.map eE) = l.length := by
  induction l with
  | nil => rfl
  | cons a l ih => rw [List.map_cons]; unfold nE at ih ⊢; rw [List.countP_cons, ih]; simp [eE]
theorem nE_c (c : Int × Int) : nE [eC c] = 0 := rfl
/-- an event that is handed out -/
structure EV where
  c : Bool
  e : EE
  q : Int
  a : Int
def outV (x : EV) : PEv := (x.c, outX x.e, x.q, x.a)
def vvE (x : EV) : Value := .agg #[.bool x.c, .string x.e.1.f, .string x.e.1.t, .string x.e.1.l, .int .i64 x.e.1.tm, x.e.1.v, .int .i64 x.q, .int .i64 x.a]
def encV (x : EV) : Array Value := #[vvE x]
def evE (x : EE) : EV := ⟨false, x, 0, x.1.tm⟩
def zE : EE := ⟨⟨⟨#[]⟩, ⟨#[]⟩, ⟨#[]⟩, 0, .slice none 0 0, []⟩, none, 0, 0, rfl⟩
def evC (c : Int × Int) : EV := ⟨true, zE, c.2, c.1⟩
theorem outV_evE (x : EE) : outV (evE x) = eE (outX x) := rfl
theorem outV_evC (c : Int × Int) : outV (evC c) = eC c := rfl
theorem outV_mapE (l : List EE) : (l.map evE).map outV = (l.map outX).map eE := by rw [List.map_map, List.map_map]; rfl
/-- what a round of the caller asks and gives -/
def YEv (l : Nat) (Ro It0 : Nat → Prop) (W0 : World) (J Jx : List EV → (Nat → Prop) → World → Prop) (OKp : List EV → EV → Prop) : Prop :=
  ∀ pre x It W1, (∀ k, It k → It0 k ∨ W0.heap.size ≤ k) → (∀ k, It k → k < W1.heap.size) → W0.heap.size ≤ W1.heap.size → J pre It W1 → OKp pre x ∧ OwnE W1 W0.heap.size x.e.1 ∧ (∀ g, x.e.1.v.ownBlock = some g → ¬ It g) → YieldAt Fence.wide 2 Try.prog l (encV x) W1 (RoundPost Ro J Jx (pre ++ [x]) It W1)
theorem RoundIn.nest {n m l l2 : Nat} {fn : FuncId} {tmps : Array Value} {assign body : Code} {W : World} {R : Ending → World → Prop} (h : RoundIn Fence.wide n Try.prog l fn tmps assign body W R) : RoundIn (Fence.wide.inRound l2) m Try.prog l fn tmps assign body W R :=
  ⟨h.1, fun c cs _ => h.2 c cs (fun d hd => by cases hd)⟩
/-- where waiting stands -/
structure WtI (S Ro It : Nat → Prop) (w : World) (K : List EV → (Nat → Prop) → World → Prop) (pre : List EV) (Fo : Nat → Prop) (W : World) : Prop where
  j : ∃ It' : Nat → Prop, (∀ k, It k → It' k) ∧ (∀ k, Fo k → k < W.heap.size → It' k) ∧ (It' w.heap.size ∧ It' (w.heap.size + 1)) ∧ (∀ k, It' k → It k ∨ Fo k ∨ k = w.heap.size ∨ k = w.heap.size + 1) ∧ (∀ k, It' k → k < W.heap.size) ∧ K pre It' W
  fs : FS w (fun k => S k ∨ ¬ (It k ∨ Ro k)) Fo W
theorem WtI.stable {S Ro It : Nat → Prop} {w : World} {K : List EV → (Nat → Prop) → World → Prop} {pre : List EV} (hK : Stable (K pre)) (hS : ∀ k, S k → It k) (hIl : ∀ k, It k → k < w.heap.size) : Stable (WtI S Ro It w K pre) := by
  intro Fo Fo' W W' h a b c
  obtain ⟨It', h1, h2, h3, h4, h5, h6⟩ := h.j
  have hz := h.fs.2.size
  have hz2 := c.size
  refine ⟨⟨fun k => It' k ∨ (Fo' k ∧ k < W'.heap.size), fun k hk => .inl (h1 k hk), fun k hk hl => .inr ⟨hk, hl⟩, ⟨.inl h3.1, .inl h3.2⟩, fun k hk => ?_, fun k hk => hk.elim (fun e => by have := h5 k e; omega) (fun e => e.2), ?_⟩, Stable.fs _ _ Fo Fo' W W' h.fs a b c⟩
  · rcases hk with e | ⟨e, e2⟩
    · exact (h4 k e).imp id (fun h => h.imp (a k) id)
    · exact .inr (.inl e)
  · refine hK It' (fun k => It' k ∨ (Fo' k ∧ k < W'.heap.size)) W W' h6 (fun k hk => .inl hk) (fun k hk => ?_) ⟨c.os, c.tape, c.output, c.size, fun i hi hs => c.block i hi (fun e => hs (h2 i e hi))⟩
    rcases hk with e | ⟨e, e2⟩
    · exact .inl e
    · rcases b k e with e3 | e3
      · by_cases hl : k < W.heap.size
        · exact .inl (h2 k e3 hl)
        · exact .inr (by omega)
      · exact .inr e3
/-- a round of the caller's is done -/
theorem WtI.next {S Ro It Fo It' : Nat → Prop} {w W W3 : World} {K : List EV → (Nat → Prop) → World → Prop} {pre' : List EV} (hz : w.heap.size ≤ W.heap.size) (hfs : FS w (fun k => S k ∨ ¬ (It k ∨ Ro k)) Fo W) (hfl : ∀ k, Fo k → k < W.heap.size) (h1 : ∀ k, It k → It' k) (h2 : ∀ k, Fo k → It' k) (h3 : It' w.heap.size ∧ It' (w.heap.size + 1)) (h4 : ∀ k, It' k → It k ∨ Fo k ∨ k = w.heap.size ∨ k = w.heap.size + 1) (h5 : ∀ k, It' k → k < W.heap.size)
    (hfr : Fr (fun k => ¬ (It' k ∨ Ro k)) W W3) (hj : K pre' It' W3) : WtI S Ro It w K pre' Fo W3 :=
  ⟨⟨It', h1, fun k hk _ => h2 k hk, h3, h4, fun k hk => Nat.lt_of_lt_of_le (h5 k hk) hfr.size, hj⟩, hfs.1, hfs.2.trans hfr (fun i hi hs => .inr (fun e => hs (e.imp (h1 i) id)))⟩
theorem its_new {S Ro It It' Fo : Nat → Prop} {w W : World} (hS : ∀ k, S k → It k) (hfs : FS w (fun k => S k ∨ ¬ (It k ∨ Ro k)) Fo W) (hd : ∀ k, Fo k → S k ∨ w.heap.size ≤ k) (h4 : ∀ k, It' k → It k ∨ Fo k ∨ k = w.heap.size ∨ k = w.heap.size + 1) : ∀ k, It' k → It k ∨ w.heap.size ≤ k := fun k hk => by
  rcases h4 k hk with h | h | h | h
  · exact .inl h
  · exact (hd k h).imp (hS k) id
  · exact .inr (by omega)
  · exact .inr (by omega)
theorem WtI.set {S Ro It Fo : Nat → Prop} {w W : World} {K : List EV → (Nat → Prop) → World → Prop} {pre : List EV} (hK : Stable (K pre)) (h : WtI S Ro It w K pre Fo W) (v : Value) : WtI S Ro It w K pre Fo (W.setCell ⟨w.heap.size + 1, 0, none⟩ v) := by
  obtain ⟨It', h1, h2, h3, h4, h5, h6⟩ := h.j
  have hz := h.fs.2.size
  refine ⟨⟨It', h1, fun k hk hl => h2 k hk (by simpa using hl), h3, h4, fun k hk => by simpa using h5 k hk, hK It' It' W _ h6 (fun _ e => e) (fun _ e => .inl e) ((Fr.refl It' W).setCell (p := ⟨w.heap.size + 1, 0, none⟩) (.inl h3.2) v)⟩, h.fs.1, h.fs.2.setCell (.inr (by show _ ≤ w.heap.size + 1; omega)) v⟩
def WaitOut (S P Ro It : Nat → Prop) (B : Nat) (s : List Out) (key : Int) (pre0 : List EV) (J Jx : List EV → (Nat → Prop) → World → Prop) (w : World) (e : Ending) (w' : World) : Prop :=
  ∃ (It' : Nat → Prop) (xs : List EE), (∀ k, It k → It' k) ∧ (∀ k, It' k → It k ∨ w.heap.size ≤ k) ∧ (∀ k, It' k → k < w'.heap.size) ∧ xs.map outX <+: tw key s ∧ BufNow S P B (s.drop xs.length) w' ∧ Fr (fun k => S k ∨ ¬ (It k ∨ Ro k)) w w' ∧
    ((e = .returned (.bool true) ∧ J (pre0 ++ xs.map evE) It' w' ∧ xs.map outX = tw key s) ∨ (e = .returned (.bool false) ∧ Jx (pre0 ++ xs.map evE) It' w'))
set_option maxHeartbeats 8000000 in
theorem waiting_any (S P Ro It0 It : Nat → Prop) (B : Nat) (s : List Out) (key : Int) (l : Nat) (J Jx : List EV → (Nat → Prop) → World → Prop) (OKp : List EV → EV → Prop) (pre0 : List EV) (W0 w : World)
    (hY : YEv l Ro It0 W0 J Jx OKp) (hJ : ∀ p, Stable (J p)) (hJx : ∀ p, Stable (Jx p)) (hb : BufNow S P B s w) (hn : s.length ≤ 100000) (hps : ∀ o ∈ s, o.2.2.2.2.length ≤ 1000000) (hP : ∀ k, P k → Ro k) (hS : ∀ k, S k → It k) (hI : ∀ k, It k → It0 k ∨ W0.heap.size ≤ k) (hIl : ∀ k, It k → k < w.heap.size) (hz : W0.heap.size ≤ w.heap.size) (hj : J pre0 It w)
    (hOK : ∀ (pre : List EE) (x : EE), (pre ++ [x]).map outX <+: tw key s → OKp (pre0 ++ pre.map evE) (evE x)) :
    Calls Try.prog 52 #[.pointer (some ⟨B, 0, none⟩), .int .i64 key, .func (.yield l) #[] #[]] w (WaitOut S P Ro It B s key pre0 J Jx w) := by
  have hgw : G w ((w.alloc (.cells #[.func (.yield l) #[] #[]] 96)).alloc (.cells #[.bool false] 4)) := ((G.refl w).alloc _).alloc _
  have h0 := boxed_at w [.cells #[.func (.yield l) #[] #[]] 96, .cells #[.bool false] 4] 0 96 (.func (.yield l) #[] #[]) rfl
  have h1 := boxed_at w [.cells #[.func (.yield l) #[] #[]] 96, .cells #[.bool false] 4] 1 4 (.bool false) rfl
  simp only [Nat.add_zero] at h0
  change Boxed ((w.alloc (.cells #[.func (.yield l) #[] #[]] 96)).alloc (.cells #[.bool false] 4)) _ _ _ at h0
  change Boxed ((w.alloc (.cells #[.func (.yield l) #[] #[]] 96)).alloc (.cells #[.bool false] 4)) _ _ _ at h1
  have hzz : ((w.alloc (.cells #[.func (.yield l) #[] #[]] 96)).alloc (.cells #[.bool false] 4)).heap.size = w.heap.size + 2 := by simp
  obtain ⟨p, hp⟩ := hb
  have hSl : ∀ k, S k ∨ P k → k < w.heap.size := hp.lt
  have HH := Lib.hid hp
  have HY := Lib.hid hY
  have HJ := Lib.hid hJ
  have HJX := Lib.hid hJx
  have HOK := Lib.hid hOK
  have HI := Lib.hid hI
  have HIL := Lib.hid hIl
  have HSI := Lib.hid hS
  have HPR := Lib.hid hP
  clear hY hJx hOK hI hS hP hp
  refine calls_of_marks Try.func52 rfl ?_
  simp only [Try.ntmps52, List.size_toArray, List.length_cons, List.length_nil, Nat.reduceAdd, Nat.reduceSub, Array.replicate_succ, Array.replicate_zero, List.push_toArray, List.append_toArray, List.nil_append, List.cons_append]
  go_upto_region 1 with fail
  try simp only [World.size_alloc]
  generalize ((w.alloc (.cells #[.func (.yield l) #[] #[]] 96)).alloc (.cells #[.bool false] 4)) = W1 at hgw h0 h1 hzz ⊢
  go_wp2_with fail
  refine (bupto_any B key _).mono ?_
  rintro e w3 ⟨rfl, hw3⟩
  have hg13 : G W1 w3 := by rw [hw3]; exact ((G.refl _).alloc _).alloc _
  have hgw3 := hgw.trans hg13
  have k1 : Boxed w3 (w.heap.size + 2) 42 (.pointer (some ⟨B, 0, none⟩)) := by rw [hw3, ← hzz]; exact boxed_at W1 [_, _] 0 _ _ rfl
  have k2 : Boxed w3 (w.heap.size + 2 + 1) 3 (.int .i64 key) := by rw [hw3, ← hzz]; exact boxed_at W1 [_, _] 1 _ _ rfl
  have hz3 : w3.heap.size = w.heap.size + 4 := by rw [hw3]; simp [hzz]
  have hb0 := hg13.boxed h0
  have hb1 := hg13.boxed h1
  rw [hzz]
  have hseq := bupto_seq S P B s key (w.heap.size + 2) (w.heap.size + 2 + 1) w3 ⟨p, HH.out.g hgw3⟩ k1 k2 hn hps (fun h => by have := hSl _ (.inl h); omega) (fun h => by have := hSl _ (.inl h); omega)
  have HSL := Lib.hid hSl
  have HIT : Hid (∀ k, (S k ∨ k = w.heap.size + 2 ∨ k = w.heap.size + 2 + 1) → k < w3.heap.size ∧ k ≠ w.heap.size ∧ k ≠ w.heap.size + 1 ∧ (S k ∨ w.heap.size ≤ k)) := Lib.hid (fun k hk => by
    rcases hk with h | h | h
    · have h1 := hSl k (.inl h); exact ⟨by omega, by omega, by omega, .inl h⟩
    · exact ⟨by omega, by omega, by omega, .inr (by omega)⟩
    · exact ⟨by omega, by omega, by omega, .inr (by omega)⟩)
  have hw0 : WtI S Ro It w J pre0 (fun k => S k ∨ k = w.heap.size + 2 ∨ k = w.heap.size + 2 + 1) w3 := ⟨⟨fun k => It k ∨ (k = w.heap.size + 2 ∨ k = w.heap.size + 2 + 1) ∨ k = w.heap.size ∨ k = w.heap.size + 1, fun k hk => .inl hk, fun k hk _ => hk.elim (fun h => .inl (HSI.out k h)) (fun h => .inr (.inl h)), ⟨.inr (.inr (.inl rfl)), .inr (.inr (.inr rfl))⟩,
    fun k hk => hk.imp id (fun h => h.imp .inr id), fun k hk => by
      rcases hk with h | (h | h) | h | h
      · have := HIL.out k h; omega
      all_goals omega, hJ pre0 It _ w w3 hj (fun k hk => .inl hk) (fun k hk => by
      rcases hk with h | (h | h) | h | h
      · exact .inl h
      all_goals exact .inr (by omega)) (hgw3.fr _)⟩, fun k hk => (HIT.out k hk).2.2.2.imp .inl id, hgw3.fr _⟩
  have FOS : Hid (∀ Fo : Nat → Prop, (∀ k, Fo k → (S k ∨ k = w.heap.size + 2 ∨ k = w.heap.size + 2 + 1) ∨ w3.heap.size ≤ k) → ∀ k, Fo k → S k ∨ w.heap.size ≤ k) := Lib.hid (fun Fo hfo k hk => by
    rcases hfo k hk with h | h
    · exact (HIT.out k h).2.2.2
    · exact .inr (by omega))
  clear hw3 hg13 k1 k2 h0 h1 hgw hSl hj hJ hIl
  go_wp2_with fail
  refine range_wp3 (gf := 79) (lb := #[.pointer (some ⟨w.heap.size + 2, 0, none⟩), .pointer (some ⟨w.heap.size + 2 + 1, 0, none⟩)]) (fun x W => W.alloc (.cells #[.string x.1.f, .string x.1.t, .string x.1.l, .int .i64 x.1.tm, x.1.v] 51)) (fun x W => (G.refl W).alloc _) rfl (enters_of Try.func79 (by kernel_rfl) rfl)
    (OKE.ok key s) hseq (G.refl _) (fun k hk => (HIT.out k hk).1) (fun k hk => by have := HSL.out k (.inr hk); omega) (fun _ => rfl)
    (fun pre Fo W => FBox w.heap.size 96 (.func (.yield l) #[] #[]) Fo W ∧ FBox (w.heap.size + 1) 4 (.bool false) Fo W ∧ WtI S Ro It w J (pre0 ++ pre.map evE) Fo W)
    (fun c pre Fo W => c = .ret ∧ FBox (w.heap.size + 1) 4 (.bool false) Fo W ∧ WtI S Ro It w Jx (pre0 ++ pre.map evE) Fo W)
    (fun pre => (Stable.box _ _ _).and ((Stable.box _ _ _).and (WtI.stable (HJ.out _) HSI.out HIL.out)))
    (fun c pre => (Stable.pure _).and ((Stable.box _ _ _).and (WtI.stable (HJX.out _) HSI.out HIL.out)))
    ⟨⟨fun h => (HIT.out _ h).2.1 rfl, hb0⟩, ⟨fun h => (HIT.out _ h).2.2.1 rfl, hb1⟩, by simpa using hw0⟩
    (fun x W => { tmps := #[.pointer (some ⟨B, 0, none⟩), .int .i64 key, .func (.yield l) #[] #[], undef, undef, .pointer (some ⟨w.heap.size, 0, none⟩), .pointer (some ⟨w.heap.size + 1, 0, none⟩), .pointer (some ⟨W.heap.size, 0, none⟩), .pointer (some ⟨B, 0, none⟩), .int .i64 key, .func (.func 79) #[] #[.pointer (some ⟨w.heap.size + 2, 0, none⟩), .pointer (some ⟨w.heap.size + 2 + 1, 0, none⟩)], .agg #[.string x.1.f, .string x.1.t, .string x.1.l, .int .i64 x.1.tm, x.1.v], undef, undef, undef, undef, undef, undef, undef], defers := [] }) ?assign ?body ?done ?stop
  case assign =>
    intro l x W K hK
    obtain ⟨⟨f, t, lb, tm, v, ps⟩, px, nx, cx, hv⟩ := x
    simp only at hv
    subst hv
    simp only [encE, ev]
    gi_wp2
    exact hK
  case body =>
    rintro l2 pre x Fo W0' W hW0 hW3 hfrW hfo hfl hsz2 ⟨hyb, hrb, hw⟩ hok
    obtain ⟨⟨xf, xt, xl, xm, v, ps⟩, px, nx, cx, hv⟩ := x
    simp only at hv
    subst hv
    simp only at hfrW
    have hne8 : ¬ W0'.heap.size = w3.heap.size + 1 := by omega
    have k0 : W.cell? ⟨W0'.heap.size, 0, none⟩ = some (.string xf) := hfrW.cell (p := ⟨W0'.heap.size, 0, none⟩) hne8 (cell_alloc_at W0' [.string xf, .string xt, .string xl, .int .i64 xm, .slice px nx cx] 51 (0, 0) 0 _ rfl)
    have k1 : W.cell? ⟨W0'.heap.size, 1, none⟩ = some (.string xt) := hfrW.cell (p := ⟨W0'.heap.size, 1, none⟩) hne8 (cell_alloc_at W0' [.string xf, .string xt, .string xl, .int .i64 xm, .slice px nx cx] 51 (0, 0) 1 _ rfl)
    have k2 : W.cell? ⟨W0'.heap.size, 2, none⟩ = some (.string xl) := hfrW.cell (p := ⟨W0'.heap.size, 2, none⟩) hne8 (cell_alloc_at W0' [.string xf, .string xt, .string xl, .int .i64 xm, .slice px nx cx] 51 (0, 0) 2 _ rfl)
    have k3 : W.cell? ⟨W0'.heap.size, 3, none⟩ = some (.int .i64 xm) := hfrW.cell (p := ⟨W0'.heap.size, 3, none⟩) hne8 (cell_alloc_at W0' [.string xf, .string xt, .string xl, .int .i64 xm, .slice px nx cx] 51 (0, 0) 3 _ rfl)
    have k4 : W.cell? ⟨W0'.heap.size, 4, none⟩ = some (.slice px nx cx) := hfrW.cell (p := ⟨W0'.heap.size, 4, none⟩) hne8 (cell_alloc_at W0' [.string xf, .string xt, .string xl, .int .i64 xm, .slice px nx cx] 51 (0, 0) 4 _ rfl)
    have hc0 := hyb.2.cell
    have hf1 := hrb.2.frozen
    obtain ⟨XX, hXX⟩ : ∃ X : EE, X = ⟨⟨xf, xt, xl, xm, .slice px nx cx, ps⟩, px, nx, cx, rfl⟩ := ⟨_, rfl⟩
    have henc : encV (evE XX) = #[.agg #[.bool false, .string xf, .string xt, .string xl, .int .i64 xm, .slice px nx cx, .int .i64 0, .int .i64 xm]] := by rw [hXX]; rfl
    rw [← hXX] at hok ⊢
    obtain ⟨It2, i1, i2, i3, i4, i5, i6⟩ := hw.j
    have hzw := hw.fs.2.size
    obtain ⟨fn, tmps, assign, body, hy, hR⟩ := HY.out (pre0 ++ pre.map evE) (evE XX) It2 W (fun k hk => (its_new HSI.out hw.fs (fun k hk => FOS.out Fo hfo k hk) i4 k hk).elim (HI.out k) (fun h => .inr (by omega))) i5 (by omega) i6 ⟨HOK.out pre XX hok.1, ⟨ownsRow_mono hok.2.1.own (by omega), hok.2.1.n, hok.2.1.ps, hok.2.1.f, hok.2.1.t, hok.2.1.l⟩, fun g hg hc => by
      have h1 := (hok.2.1.own.lt g hg).1
      rcases i4 g hc with h | h | h | h
      · have := HIL.out g h; omega
      · exact hok.2.2 g hg h
      · omega
      · omega⟩
    rw [henc] at hy
    have HR := Lib.hid hR
    have hmap : pre0 ++ (pre ++ [XX]).map evE = pre0 ++ pre.map evE ++ [evE XX] := by simp
    have HT : Hid (∀ W3, Fr (fun k => ¬ (It2 k ∨ Ro k)) W W3 → J (pre0 ++ pre.map evE ++ [evE XX]) It2 W3 → Fr (fun k => ¬ (Fo k ∨ P k)) W W3 ∧ FBox w.heap.size 96 (.func (.yield l) #[] #[]) Fo W3 ∧ FBox (w.heap.size + 1) 4 (.bool false) Fo W3 ∧ WtI S Ro It w J (pre0 ++ (pre ++ [XX]).map evE) Fo W3) := Lib.hid (fun W3 hfr hj3 =>
      ⟨hfr.mono (fun k h hk => h (hk.imp (fun e => i2 k e (hfl k e)) (HPR.out k))), ⟨hyb.1, hfr.boxed hyb.2 (fun h => h (.inl i3.1))⟩, ⟨hrb.1, hfr.boxed hrb.2 (fun h => h (.inl i3.2))⟩, by
        rw [hmap]
        exact WtI.next (It' := It2) hzw hw.fs hfl i1 (fun k e => i2 k e (hfl k e)) i3 i4 i5 hfr hj3⟩)
    have HX : Hid (∀ W3, Fr (fun k => ¬ (It2 k ∨ Ro k)) W W3 → Jx (pre0 ++ pre.map evE ++ [evE XX]) It2 W3 → (W3.frozen? ⟨w.heap.size + 1, 0, none⟩ = false ∧ W3.cell? ⟨w.heap.size + 1, 0, none⟩ = some (.bool false)) ∧ Fr (fun k => ¬ (Fo k ∨ P k)) W (W3.setCell ⟨w.heap.size + 1, 0, none⟩ (.bool false)) ∧ FBox (w.heap.size + 1) 4 (.bool false) Fo (W3.setCell ⟨w.heap.size + 1, 0, none⟩ (.bool false)) ∧ WtI S Ro It w Jx (pre0 ++ (pre ++ [XX]).map evE) Fo (W3.setCell ⟨w.heap.size + 1, 0, none⟩ (.bool false))) := Lib.hid (fun W3 hfr hj3 => by
      have hb3 : Boxed W3 (w.heap.size + 1) 4 (.bool false) := hfr.boxed hrb.2 (fun h => h (.inl i3.2))
      have hm : Fr (fun k => ¬ (Fo k ∨ P k)) W W3 := hfr.mono (fun k h hk => h (hk.imp (fun e => i2 k e (hfl k e)) (HPR.out k)))
      refine ⟨⟨hb3.frozen, hb3.cell⟩, ?_, ⟨hrb.1, hb3.set _⟩, WtI.set (HJX.out _) ?_ _⟩
      · exact hm.setCell (p := ⟨w.heap.size + 1, 0, none⟩) (.inl (fun h => h.elim hrb.1 (fun e => by have h9 : w.heap.size + 1 < w.heap.size := HSL.out _ (.inr e); omega))) _
      · rw [hmap]
        exact WtI.next (It' := It2) hzw hw.fs hfl i1 (fun k e => i2 k e (hfl k e)) i3 i4 i5 hfr hj3)
    clear hfrW hok hw hR hb0 hb1 hseq hXX henc i1 i2 i3 i4 i5 i6 hyb hrb hmap
    gi_wp2
    refine RoundIn.mono (RoundIn.nest HR.out) ?_
    rintro e W3 hrp
    rcases hrp.elim with ⟨rfl, hfr, hj3⟩ | ⟨rfl, hfr, hj3⟩
    · have HE := Lib.hid (HT.out W3 hfr hj3)
      clear hfr hj3 hrp HR hy HT HX k0 k1 k2 k3 k4 hc0 hf1
      gi_wp2
      exact HE.out
    · have HE := Lib.hid (HX.out W3 hfr hj3)
      obtain ⟨hfz, hcz⟩ := HE.out.1
      clear hfr hj3 hrp HR hy HT HX k0 k1 k2 k3 k4 hc0 hf1
      gi_wp2
      exact ⟨HE.out.2.1, rfl, HE.out.2.2⟩
  case done =>
    rintro D xs It2 Fo W W3 hD hDl hIF hFD hIt hFo ⟨hdo, hnow⟩ hfr ⟨hyb, hrb, hw⟩ hK
    have hzw := hw.fs.2.size
    have hnW : BufNow S P B (s.drop xs.length) W := hnow.fr hfr (fun k hk e => by have := HSL.out k hk; have e2 : k = w3.heap.size + 1 := e; omega)
    have hf1 := hrb.2.frozen
    have hc1 := hrb.2.cell
    have HFIN : Hid (WaitOut S P Ro It B s key pre0 J Jx w (.returned (.bool true)) ((W.setCell ⟨w.heap.size + 1, 0, none⟩ (.bool true)).putObj D (.deferred none))) := Lib.hid (by
      obtain ⟨I3, i1, i2, i3, i4, i5, i6⟩ := (WtI.set (HJ.out _) hw (.bool true)).j
      have hp := putObj_fr (W.setCell ⟨w.heap.size + 1, 0, none⟩ (.bool true)) D (.deferred none)
      have hs : Fr (fun k => k = w.heap.size + 1) W (W.setCell ⟨w.heap.size + 1, 0, none⟩ (.bool true)) := (Fr.refl (fun k => k = w.heap.size + 1) W).setCell (p := ⟨w.heap.size + 1, 0, none⟩) (.inl rfl) _
      have hDI : I3 D := i2 D hFD (by simpa using hDl)
      refine ⟨I3, xs, i1, its_new HSI.out hw.fs (FOS.out Fo hFo) i4, fun k hk => by simpa using i5 k hk, by rw [hdo]; exact List.prefix_rfl, (hnW.fr hs (fun k hk e => by have := HSL.out k hk; have e2 : k = w.heap.size + 1 := e; omega)).fr hp (fun k hk e => by have := HSL.out k hk; have e2 : k = D := e; omega), ?_, .inl ⟨rfl, ?_, hdo⟩⟩
      · exact (hw.fs.2.trans hs (fun i hi e => by have e2 : i = w.heap.size + 1 := e; omega)).trans hp (fun i hi e => by have e2 : i = D := e; omega)
      · exact HJ.out _ I3 I3 _ _ i6 (fun _ e => e) (fun _ e => .inl e) (hp.mono (fun i e => by rw [e]; exact hDI)))
    have hK2 : (W.setCell ⟨w.heap.size + 1, 0, none⟩ (.bool true)).heap[D]? = some (.deferred (some [])) := (Below.heap_setCell W _ _ _ (by show D ≠ w.heap.size + 1; omega)).trans hK
    have HK := Lib.hid hK2
    have hc9 : ((W.setCell ⟨w.heap.size + 1, 0, none⟩ (.bool true)).putObj D (.deferred none)).cell? ⟨w.heap.size + 1, 0, none⟩ = some (.bool true) := by
      have h1 := (hrb.2.set (.bool true))
      exact (boxed_putObj (D := D) (o := .deferred none) h1 (by omega)).cell
    clear hw hnW hnow hK hseq hfr hb0 hb1 hyb hrb hK2
    go_wp2_with fail
    refine leave_mark (D := D) HK.out (leave_nil (v := .bool true) (by simp [results, Try.results52, go_sem, hc9]) HFIN.out)
  case stop =>
    rintro D c pre It2 Fo W W3 hD hDl hIF hFD hIt hFo ⟨hpo, hnow⟩ hfr ⟨rfl, hrb, hw⟩ hK
    have hzw := hw.fs.2.size
    have hnW : BufNow S P B (s.drop pre.length) W := hnow.fr hfr (fun k hk e => by have := HSL.out k hk; have e2 : k = w3.heap.size + 1 := e; omega)
    have hc9 : (W.putObj D (.deferred none)).cell? ⟨w.heap.size + 1, 0, none⟩ = some (.bool false) := (boxed_putObj (D := D) (o := .deferred none) hrb.2 (by omega)).cell
    have HFIN : Hid (WaitOut S P Ro It B s key pre0 J Jx w (.returned (.bool false)) (W.putObj D (.deferred none))) := Lib.hid (by
      obtain ⟨I3, i1, i2, i3, i4, i5, i6⟩ := hw.j
      have hp := putObj_fr W D (.deferred none)
      have hDI : I3 D := i2 D hFD hDl
      refine ⟨I3, pre, i1, its_new HSI.out hw.fs (FOS.out Fo hFo) i4, fun k hk => by simpa using i5 k hk, hpo, hnW.fr hp (fun k hk e => by have := HSL.out k hk; have e2 : k = D := e; omega), hw.fs.2.trans hp (fun i hi e => by have e2 : i = D := e; omega), .inr ⟨rfl, ?_⟩⟩
      exact HJX.out _ I3 I3 _ _ i6 (fun _ e => e) (fun _ e => .inl e) (hp.mono (fun i e => by rw [e]; exact hDI)))
    have HK := Lib.hid hK
    clear hw hnW hnow hK hseq hfr hb0 hb1 hrb
    go_wp2_with fail
    refine leave_mark (D := D) HK.out (leave_nil (v := .bool false) (by simp [results, Try.results52, go_sem, hc9]) HFIN.out)
end Go.Proofs.Ythhmmjpgefinmaa

set_option maxRecDepth 10000
namespace Go.Proofs.Ythhmmjpgefinmaa
set_option linter.unusedVariables false
set_option linter.unusedSimpArgs false
open Go.RowKit Go.Shelf
attribute [local go_sem] Oper.semAt_some

theorem tw_len (key : Int) (s : List Out) : (tw key s).length ≤ s.length := (List.takeWhile_prefix _).length_le
/-- what has come so far, and the blocks that are the iterator's -/
structure EvC (S P It0 X : Nat → Prop) (B : Nat) (s : List Out) (W0 : World) (K : List EV → (Nat → Prop) → World → Prop) (xs : List EV) (Fo : Nat → Prop) (W : World) : Prop where
  buf : BufNow S P B (s.drop (nE (xs.map outV))) W
  nfo : ∀ k, S k ∨ P k → ¬ Fo k
  j : ∃ It' : Nat → Prop, (∀ k, It0 k → It' k) ∧ (∀ k, X k → It' k) ∧ (∀ k, Fo k → k < W.heap.size → It' k) ∧ (∀ k, It' k → It0 k ∨ W0.heap.size ≤ k) ∧ (∀ k, It' k → k < W.heap.size) ∧ K xs It' W
  fz : (∀ k, Fo k → W0.heap.size ≤ k) ∧ W0.heap.size ≤ W.heap.size
theorem BufNow.lt {S P : Nat → Prop} {B : Nat} {s : List Out} {W : World} (h : BufNow S P B s W) : ∀ k, S k ∨ P k → k < W.heap.size := h.elim fun p h => h.lt
theorem EvC.stable {S P It0 X : Nat → Prop} {B : Nat} {s : List Out} {W0 : World} {K : List EV → (Nat → Prop) → World → Prop} {xs : List EV} (hK : Stable (K xs)) : Stable (EvC S P It0 X B s W0 K xs) := by
  intro Fo Fo' W W' h a b c
  obtain ⟨It', h1, h2, h3, h4, h5, h6⟩ := h.j
  have hl := h.buf.lt
  have hz := c.size
  refine ⟨h.buf.fr c h.nfo, fun k hk hf => (b k hf).elim (h.nfo k hk) (fun e => by have := hl k hk; omega), ⟨fun k => It' k ∨ (Fo' k ∧ k < W'.heap.size), fun k e => .inl (h1 k e), fun k e => .inl (h2 k e), fun k e e2 => .inr ⟨e, e2⟩, fun k e => ?_, fun k e => e.elim (fun e => by have := h5 k e; omega) (fun e => e.2), ?_⟩, fun k hk => (b k hk).elim (h.fz.1 k) (fun e => Nat.le_trans h.fz.2 e), Nat.le_trans h.fz.2 hz⟩
  · rcases e with e | ⟨e, e2⟩
    · exact h4 k e
    · exact .inr ((b k e).elim (h.fz.1 k) (fun e => Nat.le_trans h.fz.2 e))
  · refine hK It' (fun k => It' k ∨ (Fo' k ∧ k < W'.heap.size)) W W' h6 (fun k hk => .inl hk) (fun k hk => ?_) ⟨c.os, c.tape, c.output, c.size, fun i hi hs => c.block i hi (fun e => hs (h3 i e hi))⟩
    rcases hk with e | ⟨e, e2⟩
    · exact .inl e
    · rcases b k e with e3 | e3
      · by_cases hl : k < W.heap.size
        · exact .inl (h3 k e3 hl)
        · exact .inr (by omega)
      · exact .inr e3
/-- what is handed out -/
def OKV (evs : List PEv) (n : Nat) (pre : List EV) (x : EV) (It : Nat → Prop) (W : World) : Prop := (pre ++ [x]).map outV <+: evs ∧ OwnE W n x.e.1 ∧ ∀ g, x.e.1.v.ownBlock = some g → ¬ It g
theorem OKV.ok (evs : List PEv) : ∀ n pre x It It' W W', OKV evs n pre x It W → (∀ k, It' k → It k ∨ k < n) → Fr (fun k => k < n) W W' → OKV evs n pre x It' W' := fun n pre x It It' W W' h h2 hf =>
  ⟨h.1, h.2.1.fr hf (fun g hg e => by have := (h.2.1.own.lt g hg).1; have e2 : g < n := e; omega), fun g hg hc => (h2 g hc).elim (h.2.2 g hg) (fun e => by have := (h.2.1.own.lt g hg).1; omega)⟩
/-- what waits on while the iterator runs -/
structure EvB (a b : Int) (v : Value) (l : List Slt) (B y b1 b2 b3 b4 yb : Nat) (Fo : Nat → Prop) (W : World) : Prop where
  h1 : FBox b1 3 (.int .i64 a) Fo W
  h2 : FBox b2 3 (.int .i64 b) Fo W
  h3 : FBox b3 22 v Fo W
  h4 : FBox b4 42 (.pointer (some ⟨B, 0, none⟩)) Fo W
  hy : FBox yb 96 (.func (.yield y) #[] #[]) Fo W
  rd : RdrS W v l
  nv : 0 < l.length → ∀ g, v.ownBlock = some g → ¬ Fo g
theorem EvB.fr {a b : Int} {v : Value} {l : List Slt} {B y b1 b2 b3 b4 yb : Nat} {Fo T : Nat → Prop} {W W' : World} (h : EvB a b v l B y b1 b2 b3 b4 yb Fo W) (hf : Fr T W W') (hb : ∀ k, k = b1 ∨ k = b2 ∨ k = b3 ∨ k = b4 ∨ k = yb → ¬ T k) (hv : 0 < l.length → ∀ g, v.ownBlock = some g → ¬ T g) : EvB a b v l B y b1 b2 b3 b4 yb Fo W' :=
  ⟨h.h1.fr hf (hb _ (.inl rfl)), h.h2.fr hf (hb _ (.inr (.inl rfl))), h.h3.fr hf (hb _ (.inr (.inr (.inl rfl)))), h.h4.fr hf (hb _ (.inr (.inr (.inr (.inl rfl))))), h.hy.fr hf (hb _ (.inr (.inr (.inr (.inr rfl))))), h.rd.frn hf hv, h.nv⟩
theorem EvB.stable (a b : Int) (v : Value) (l : List Slt) (B y b1 b2 b3 b4 yb : Nat) : Stable (EvB a b v l B y b1 b2 b3 b4 yb) := by
  intro Fo Fo' W W' h e1 e2 e3
  exact ⟨Stable.box _ _ _ Fo Fo' W W' h.h1 e1 e2 e3, Stable.box _ _ _ Fo Fo' W W' h.h2 e1 e2 e3, Stable.box _ _ _ Fo Fo' W W' h.h3 e1 e2 e3, Stable.box _ _ _ Fo Fo' W W' h.h4 e1 e2 e3, Stable.box _ _ _ Fo Fo' W W' h.hy e1 e2 e3, h.rd.frn e3 h.nv, fun h0 g hg hf => (e2 g hf).elim (h.nv h0 g hg) (fun e => by have := h.rd.lt h0 (by omega) g hg; omega)⟩
/-- the events up to a close -/
structure EvI (S P It0 X : Nat → Prop) (B : Nat) (s : List Out) (W0 : World) (K : List EV → (Nat → Prop) → World → Prop) (cl : List (Int × Int)) (b : Int) (pre : List (Int × Int)) (xs : List EV) (rest : List (Int × Int)) (Fo : Nat → Prop) (W : World) : Prop where
  cat : pre ++ rest = cl
  ev : xs.map outV ++ evL (s.drop (nE (xs.map outV))) rest b = evL s cl b
  c : EvC S P It0 X B s W0 K xs Fo W
theorem EvI.stable {S P It0 X : Nat → Prop} {B : Nat} {s : List Out} {W0 : World} {K : List EV → (Nat → Prop) → World → Prop} {cl : List (Int × Int)} {b : Int} {pre : List (Int × Int)} (hK : ∀ p, Stable (K p)) : Stable (fun Fo W => ∃ xs rest, EvI S P It0 X B s W0 K cl b pre xs rest Fo W) := by
  rintro Fo Fo' W W' ⟨xs, rest, h⟩ e1 e2 e3
  exact ⟨xs, rest, h.cat, h.ev, EvC.stable (hK xs) Fo Fo' W W' h.c e1 e2 e3⟩
theorem drop_ev (s : List Out) (xs : List EV) (es : List EE) : s.drop (nE ((xs ++ es.map evE).map outV)) = (s.drop (nE (xs.map outV))).drop es.length := by
  rw [List.map_append, outV_mapE, nE_app, nE_map, List.length_map, List.drop_drop]
theorem drop_ec (s : List Out) (xs : List EV) (c : Int × Int) : s.drop (nE ((xs ++ [evC c]).map outV)) = s.drop (nE (xs.map outV)) := by
  rw [List.map_append, nE_app]; rfl
/-- behind waiting -/
theorem EvC.wait {S P It0 X Ro It' It2 Fo : Nat → Prop} {B : Nat} {s : List Out} {W0 W w2 : World} {K K' : List EV → (Nat → Prop) → World → Prop} {xs : List EV} {es : List EE} (h : EvC S P It0 X B s W0 K xs Fo W) (hfl : ∀ k, Fo k → k < W.heap.size) (j1 : ∀ k, It0 k → It' k) (j2 : ∀ k, X k → It' k) (j3 : ∀ k, Fo k → k < W.heap.size → It' k) (j4 : ∀ k, It' k → It0 k ∨ W0.heap.size ≤ k)
    (q1 : ∀ k, It' k → It2 k) (q2 : ∀ k, It2 k → It' k ∨ W.heap.size ≤ k) (q3 : ∀ k, It2 k → k < w2.heap.size) (q5 : BufNow S P B ((s.drop (nE (xs.map outV))).drop es.length) w2) (q6 : Fr (fun k => S k ∨ ¬ (It' k ∨ Ro k)) W w2) (q7 : K' (xs ++ es.map evE) It2 w2) : EvC S P It0 X B s W0 K' (xs ++ es.map evE) Fo w2 :=
  ⟨by rw [drop_ev]; exact q5, h.nfo, ⟨It2, fun k e => q1 k (j1 k e), fun k e => q1 k (j2 k e), fun k e _ => q1 k (j3 k e (hfl k e)), fun k e => (q2 k e).elim (j4 k) (fun e => .inr (Nat.le_trans h.fz.2 e)), q3, q7⟩, h.fz.1, Nat.le_trans h.fz.2 q6.size⟩
/-- behind a close's round -/
theorem EvC.close {S P It0 X Ro It2 Fo : Nat → Prop} {B : Nat} {s : List Out} {W0 w2 W3 : World} {K K' : List EV → (Nat → Prop) → World → Prop} {xs : List EV} {c : Int × Int} (h : EvC S P It0 X B s W0 K xs Fo w2) (hfl : ∀ k, Fo k → It2 k) (hS : ∀ k, S k → It0 k) (hP : ∀ k, P k → Ro k) (j1 : ∀ k, It0 k → It2 k) (j2 : ∀ k, X k → It2 k) (j4 : ∀ k, It2 k → It0 k ∨ W0.heap.size ≤ k) (j5 : ∀ k, It2 k → k < w2.heap.size)
    (hf : Fr (fun k => ¬ (It2 k ∨ Ro k)) w2 W3) (hk : K' (xs ++ [evC c]) It2 W3) : EvC S P It0 X B s W0 K' (xs ++ [evC c]) Fo W3 :=
  ⟨by rw [drop_ec]; exact h.buf.fr hf (fun k hk e => e (hk.imp (fun e => j1 k (hS k e)) (hP k))), h.nfo, ⟨It2, j1, j2, fun k e _ => hfl k e, j4, fun k e => Nat.lt_of_lt_of_le (j5 k e) hf.size, hk⟩, h.fz.1, Nat.le_trans h.fz.2 hf.size⟩
def revs_args (b1 b2 b3 b4 : Nat) : Array Value := #[.pointer (some ⟨b1, 0, none⟩), .pointer (some ⟨b2, 0, none⟩), .pointer (some ⟨b3, 0, none⟩), .pointer (some ⟨b4, 0, none⟩)]
theorem events_any (a b : Int) (v : Value) (B : Nat) (p : Option Addr) (n c : Nat) (hv : v = .slice p n c) (w : World) : Calls Try.prog 34 #[.pointer (some ⟨B, 0, none⟩), .int .i64 a, .int .i64 b, v] w fun e w' => ∃ b1 b2 b3 b4 : Nat,
    e = .returned (.func (.func 51) #[] (revs_args b1 b2 b3 b4)) ∧
    Boxed w' b1 3 (.int .i64 a) ∧ Boxed w' b2 3 (.int .i64 b) ∧ Boxed w' b3 22 v ∧ Boxed w' b4 42 (.pointer (some ⟨B, 0, none⟩)) ∧ (w.heap.size ≤ b1 ∧ w.heap.size ≤ b2 ∧ w.heap.size ≤ b3 ∧ w.heap.size ≤ b4) ∧ G w w' := by
  subst hv
  go_enter Try.func34, Try.ntmps34
  go_wp2
  go_ret
  have k0 := boxed_at w [.cells #[.pointer (some ⟨B, 0, none⟩)] 42, .cells #[.int .i64 a] 3, .cells #[.int .i64 b] 3, .cells #[.slice p n c] 22] 0 _ _ rfl
  have k1 := boxed_at w [.cells #[.pointer (some ⟨B, 0, none⟩)] 42, .cells #[.int .i64 a] 3, .cells #[.int .i64 b] 3, .cells #[.slice p n c] 22] 1 _ _ rfl
  have k2 := boxed_at w [.cells #[.pointer (some ⟨B, 0, none⟩)] 42, .cells #[.int .i64 a] 3, .cells #[.int .i64 b] 3, .cells #[.slice p n c] 22] 2 _ _ rfl
  have k3 := boxed_at w [.cells #[.pointer (some ⟨B, 0, none⟩)] 42, .cells #[.int .i64 a] 3, .cells #[.int .i64 b] 3, .cells #[.slice p n c] 22] 3 _ _ rfl
  exact ⟨_, _, _, _, rfl, k1, k2, k3, k0, ⟨by omega, by omega, by omega, by omega⟩, ((((G.refl _).alloc _).alloc _).alloc _).alloc _⟩
set_option maxHeartbeats 8000000 in
theorem events_seq (S P : Nat → Prop) (B : Nat) (s : List Out) (a b : Int) (l : List Slt) (v : Value) (b1 b2 b3 b4 : Nat) (w : World) (hb : BufNow S P B s w) (h1 : Boxed w b1 3 (.int .i64 a)) (h2 : Boxed w b2 3 (.int .i64 b)) (h3 : Boxed w b3 22 v) (h4 : Boxed w b4 42 (.pointer (some ⟨B, 0, none⟩))) (hr : RdrS w v l) (hn : l.length ≤ 4611686018427387904) (hs : s.length ≤ 100000) (hps : ∀ o ∈ s, o.2.2.2.2.length ≤ 1000000)
    (hsb : ∀ k, (k = b1 ∨ k = b2 ∨ k = b3 ∨ k = b4) → ¬ S k ∧ ¬ P k) (hsv : 0 < l.length → ∀ g, v.ownBlock = some g → ¬ S g) :
    Seq3 Try.prog 51 (revs_args b1 b2 b3 b4) encV (fun k => P k ∨ (0 < l.length ∧ v.ownBlock = some k)) (fun k => S k ∨ k = b1 ∨ k = b2 ∨ k = b3 ∨ k = b4)
      (fun xs _ W => xs.map outV = evP a b l s ∧ BufNow S P B (s.drop (nE (xs.map outV))) W) (fun pre _ W => pre.map outV <+: evP a b l s ∧ BufNow S P B (s.drop (nE (pre.map outV))) W) (OKV (evP a b l s)) w := by
  intro y J Jx W hW hJ hJx hY hj0
  obtain ⟨Ro, hRo⟩ : ∃ Ro : Nat → Prop, Ro = fun k => P k ∨ (0 < l.length ∧ v.ownBlock = some k) := ⟨_, rfl⟩
  obtain ⟨It0, hIt0⟩ : ∃ It0 : Nat → Prop, It0 = fun k => S k ∨ k = b1 ∨ k = b2 ∨ k = b3 ∨ k = b4 := ⟨_, rfl⟩
  rw [← hRo, ← hIt0] at hY
  rw [← hIt0] at hj0 ⊢
  have HY : Hid (YEv y Ro It0 W J Jx (fun pre x => (pre ++ [x]).map outV <+: evP a b l s)) := Lib.hid (fun pre x It W1 e1 e2 e3 e4 e5 => hY pre x It W1 e1 e2 e3 e4 e5)
  have HJ := Lib.hid hJ
  have HJX := Lib.hid hJx
  have HPR : Hid (∀ k, P k → Ro k) := Lib.hid (fun k e => by rw [hRo]; exact .inl e)
  have HVR : Hid (0 < l.length → ∀ g, v.ownBlock = some g → Ro g) := Lib.hid (fun h0 g e => by rw [hRo]; exact .inr ⟨h0, e⟩)
  have HSI : Hid (∀ k, S k → It0 k) := Lib.hid (fun k e => by rw [hIt0]; exact .inl e)
  have HBI : Hid (∀ k, (k = b1 ∨ k = b2 ∨ k = b3 ∨ k = b4) → It0 k) := Lib.hid (fun k e => by rw [hIt0]; exact .inr e)
  replace h1 := hW.boxed h1
  replace h2 := hW.boxed h2
  replace h3 := hW.boxed h3
  replace h4 := hW.boxed h4
  replace hb := hb.g hW
  replace hr := hr.g hW
  have hI0 : ∀ k, It0 k → k < W.heap.size := fun k e => by
    rw [hIt0] at e
    rcases e with e | e | e | e | e
    · exact hb.lt k (.inl e)
    · have := h1.lt; omega
    · have := h2.lt; omega
    · have := h3.lt; omega
    · have := h4.lt; omega
  clear hY hJ hJx hW hRo hIt0
  obtain ⟨p, c, rfl⟩ := hr.shape
  have HVL : Hid (0 < l.length → ∀ g, (Value.slice p l.length c).ownBlock = some g → g < W.heap.size) := Lib.hid (fun h0 => hr.lt h0 (by omega))
  have HRC := Lib.hid (rcloses_any a b _ p l.length c rfl)
  have HRS := Lib.hid (fun (X : World) (hX : RdrS X (.slice p l.length c) l) (ba bb bs : Nat) (k1 : Boxed X ba 3 (.int .i64 a)) (k2 : Boxed X bb 3 (.int .i64 b)) (k3 : Boxed X bs 22 (.slice p l.length c)) => rcloses_seq a b l _ ba bb bs X k1 k2 k3 hX hn)
  obtain ⟨nn, e, hcv⟩ : ∃ n e, cntV a b l = (n, e) := ⟨_, _, rfl⟩
  have hct : cntT a b l = .tuple #[.int .i64 nn, .int .i64 e] := by unfold cntT; rw [hcv]
  have HCT : Hid (∀ X, RdrS X (.slice p l.length c) l → Calls Try.prog 7 #[.int .i64 a, .int .i64 b, .slice p l.length c] X fun e' w' => e' = .returned (.tuple #[.int .i64 nn, .int .i64 e]) ∧ G X w') := Lib.hid (fun X hX => by
    have := rcount_any a b l _ X hX hn
    rw [hct] at this; exact this)
  have HCV := Lib.hid hcv
  have HSL : Hid (∀ k, S k ∨ P k → k < W.heap.size) := Lib.hid hb.lt
  have hgw : G W (W.alloc (.cells #[.func (.yield y) #[] #[]] 96)) := (G.refl W).alloc _
  have hyb := Boxed.new W 96 (.func (.yield y) #[] #[])
  have hzz : (W.alloc (.cells #[.func (.yield y) #[] #[]] 96)).heap.size = W.heap.size + 1 := by simp
  have HB0 : Hid (∀ X, G (W.alloc (.cells #[.func (.yield y) #[] #[]] 96)) X → BufNow S P B s X ∧ EvB a b (.slice p l.length c) l B y b1 b2 b3 b4 W.heap.size (fun _ => False) X) := Lib.hid (fun X hX =>
    ⟨(hb.g hgw).g hX, ⟨id, hX.boxed (hgw.boxed h1)⟩, ⟨id, hX.boxed (hgw.boxed h2)⟩, ⟨id, hX.boxed (hgw.boxed h3)⟩, ⟨id, hX.boxed (hgw.boxed h4)⟩, ⟨id, hX.boxed hyb⟩, (hr.g hgw).g hX, fun _ _ _ => id⟩)
  have HJ0 : Hid (∀ X, G W X → J [] It0 X) := Lib.hid (fun X hX => (HJ.out []).g hj0 hX)
  have c1 := (hgw.boxed h1).cell
  have c2 := (hgw.boxed h2).cell
  have c3 := (hgw.boxed h3).cell
  have hr1 := hr.g hgw
  obtain ⟨m, hm⟩ : ∃ m, m = l.length := ⟨_, rfl⟩
  have HSV := Lib.hid hsv
  have HSB := Lib.hid hsb
  have HPS := Lib.hid hps
  rw [← hm] at HVL HRC HRS HCT HSV HVR HB0 hr1 c3
  have HM := Lib.hid hm
  have HI0 := Lib.hid hI0
  clear h1 h2 h3 h4 hj0 hct hcv hyb hm hr hb hn hsv hsb hps hI0
  show Calls Try.prog 51 #[.func (.yield y) #[] #[], .pointer (some ⟨b1, 0, none⟩), .pointer (some ⟨b2, 0, none⟩), .pointer (some ⟨b3, 0, none⟩), .pointer (some ⟨b4, 0, none⟩)] W _
  refine calls_of_marks Try.func51 rfl ?_
  simp only [Try.ntmps51, List.size_toArray, List.length_cons, List.length_nil, Nat.reduceAdd, Nat.reduceSub, Array.replicate_succ, Array.replicate_zero, List.push_toArray, List.append_toArray, List.nil_append, List.cons_append]
  go_upto_region 1 with fail
  generalize (W.alloc (.cells #[.func (.yield y) #[] #[]] 96)) = W1 at hgw hzz HB0 hr1 c1 c2 c3 ⊢
  go_wp2_with fail
  refine (HCT.out W1 hr1).mono ?_
  rintro e0 w2 ⟨rfl, hg2⟩
  replace c1 := hg2.cell c1
  replace c2 := hg2.cell c2
  replace c3 := hg2.cell c3
  have hr2 := RdrS.g hr1 hg2
  by_cases he : e = 0
  · subst he
    have hok := cntV_ok HCV.out
    have hep : evP a b l s = evL s (closesD a b l) b := by unfold evP; rw [HCV.out, if_pos rfl]
    have hcw : closesW a b l = closesD a b l := by unfold closesW; rw [HCV.out, if_pos rfl]
    have HEP := Lib.hid hep
    have HCW := Lib.hid hcw
    clear hok hep hcw
    go_wp2_with fail
    refine (HRC.out w2).mono ?_
    rintro e0 w3 ⟨ba, bb, bs, rfl, k1, k2, k3, ⟨z1, z2, z3⟩, hg3⟩
    have hg13 := hg2.trans hg3
    have hs2 := hg2.size
    have hs3 := hg3.size
    have hl1 := k1.lt
    have hl2 := k2.lt
    have hl3 := k3.lt
    have hgw3 := hgw.trans hg13
    obtain ⟨HBN, HEB⟩ := HB0.out w3 hg13
    have hseq := HRS.out w3 (hr2.g hg3) ba bb bs k1 k2 k3
    obtain ⟨X, hX⟩ : ∃ X : Nat → Prop, X = fun k => k = W.heap.size ∨ k = ba ∨ k = bb ∨ k = bs := ⟨_, rfl⟩
    have HX1 : Hid (∀ k, X k → W.heap.size ≤ k ∧ k < w3.heap.size) := Lib.hid (fun k e => by
      rw [hX] at e
      rcases e with e | e | e | e <;> exact ⟨by omega, by omega⟩)
    have HXY : Hid (X W.heap.size ∧ X ba ∧ X bb ∧ X bs) := Lib.hid (by rw [hX]; exact ⟨.inl rfl, .inr (.inl rfl), .inr (.inr (.inl rfl)), .inr (.inr (.inr rfl))⟩)
    have HI1 : Hid (EvI S P It0 X B s W J (closesD a b l) b [] [] (closesD a b l) (fun _ => False) w3) := Lib.hid ⟨rfl, rfl, ⟨HBN, fun _ _ => id, ⟨fun k => It0 k ∨ X k, fun k e => .inl e, fun k e => .inr e, fun k e => e.elim, fun k e => e.imp id (fun e => (HX1.out k e).1), fun k e => e.elim (fun e => by have := HI0.out k e; omega) (fun e => (HX1.out k e).2), HJ.out [] It0 _ W w3 (HJ0.out W (G.refl W)) (fun k e => .inl e) (fun k e => e.imp id (fun e => (HX1.out k e).1)) (hgw3.fr _)⟩, fun _ => False.elim, by omega⟩⟩
    have HEB0 := Lib.hid HEB
    clear hX k1 k2 k3 c1 c2 c3 hr1 hr2 HBN HEB hg13 hg2 hg3 HB0 HJ0 hgw
    go_wp2_with fail
    refine range_wp2 (gf := 30) (lb := #[.pointer (some ⟨ba, 0, none⟩), .pointer (some ⟨bb, 0, none⟩), .pointer (some ⟨bs, 0, none⟩)]) (fun x W => W) (fun x W => G.refl W) rfl (enters_of Try.func30 (by kernel_rfl) rfl)
      hseq (G.refl _) (fun k hk => hk.elim) (fun k hk => by
        rcases hk with (e | e | e) | ⟨h0, e⟩
        · omega
        · omega
        · omega
        · have := HVL.out (by have := HM.out; omega) k e; omega) (fun _ => rfl)
      (fun pre Fo W' => EvB a b (.slice p m c) l B y b1 b2 b3 b4 W.heap.size Fo W' ∧ ∃ xs rest, EvI S P It0 X B s W J (closesD a b l) b pre xs rest Fo W')
      (fun c pre Fo W' => c = .ret ∧ ∃ xs, xs.map outV <+: evP a b l s ∧ EvC S P It0 X B s W Jx xs Fo W')
      (fun pre => (EvB.stable _ _ _ _ _ _ _ _ _ _ _).and (EvI.stable HJ.out))
      (fun c pre => (Stable.pure _).and (Stable.ex fun xs => (Stable.pure _).and (EvC.stable (HJX.out xs))))
      ⟨HEB0.out, _, _, HI1.out⟩
      ?a1 ?assign ?body ?done ?stop
    case assign =>
      intro l2 x W K hK
      simp only [encC]
      gi_wp2
      exact hK
    case body =>
      rintro l2 pre x Fo W0' W4 hW0 hW3 hfrW hfo hfl hsz2 ⟨hB, xs, rest, hI⟩ hpre
      obtain ⟨t, q⟩ := x
      have hcons : ∃ r2, rest = (t, q) :: r2 := by
        rw [HCW.out, ← hI.cat] at hpre
        obtain ⟨r2, hr2⟩ := hpre
        rw [List.append_assoc] at hr2
        exact ⟨r2, (List.append_cancel_left hr2).symm⟩
      obtain ⟨r2, rfl⟩ := hcons
      obtain ⟨s2, hs2'⟩ : ∃ s2, s2 = s.drop (nE (xs.map outV)) := ⟨_, rfl⟩
      have hev := hI.ev
      rw [← hs2'] at hev
      obtain ⟨It', j1, j2, j3, j4, j5, j6⟩ := hI.c.j
      have hbuf := hI.c.buf
      rw [← hs2'] at hbuf
      have hmem : ∀ o ∈ s2, o ∈ s := fun o ho => by rw [hs2'] at ho; exact List.mem_of_mem_drop ho
      have hlen : s2.length ≤ s.length := by rw [hs2', List.length_drop]; omega
      have HW := Lib.hid (waiting_any S P Ro It0 It' B s2 t y J Jx (fun pre x => (pre ++ [x]).map outV <+: evP a b l s) xs W W4 HY.out HJ.out HJX.out hbuf (by omega) (fun o ho => HPS.out o (hmem o ho)) HPR.out (fun k e => j1 k (HSI.out k e)) j4 j5 hI.c.fz.2 j6 (fun pre' x' hp => by
        rw [HEP.out, ← hev]
        simp only [List.map_append, outV_mapE, List.map_cons, List.map_nil, List.append_assoc]
        rw [List.prefix_append_right_inj]
        simp only [List.map_append, List.map_cons, List.map_nil] at hp
        have h2 : (List.map outX pre').map eE ++ [outV (evE x')] <+: (tw t s2).map eE := by
          obtain ⟨r, hr⟩ := hp
          refine ⟨r.map eE, ?_⟩
          rw [← hr]; simp [outV_evE]
        refine h2.trans ?_
        show _ <+: (tw t s2).map eE ++ _
        exact List.prefix_append _ _))
      have hc1 := hB.h1.2.cell
      have hc2 := hB.h2.2.cell
      have hc4 := hB.h4.2.cell
      have hcy := hB.hy.2.cell
      have HOKc : Hid (∀ es : List EE, es.map outX = tw t s2 → (xs ++ es.map evE ++ [evC (t, q)]).map outV <+: evP a b l s ∧ (xs ++ es.map evE ++ [evC (t, q)]).map outV ++ evL (s.drop (nE ((xs ++ es.map evE ++ [evC (t, q)]).map outV))) r2 b = evL s (closesD a b l) b) := Lib.hid (fun es hes => by
        have h1 : (xs ++ es.map evE ++ [evC (t, q)]).map outV ++ evL (s.drop (nE ((xs ++ es.map evE ++ [evC (t, q)]).map outV))) r2 b = evL s (closesD a b l) b := by
          rw [drop_ec, drop_ev, ← hs2', ← hev, List.map_append, List.map_append, outV_mapE, hes, List.append_assoc, List.append_assoc]
          congr 1
          show _ = (tw t s2).map eE ++ eC (t, q) :: evL (s2.drop (tw t s2).length) r2 b
          rw [← hes, List.length_map]; rfl
        exact ⟨by rw [HEP.out, ← h1]; exact List.prefix_append _ _, h1⟩)
      have HOKx : Hid (∀ es : List EE, es.map outX <+: tw t s2 → (xs ++ es.map evE).map outV <+: evP a b l s) := Lib.hid (fun es hes => by
        rw [HEP.out, ← hev, List.map_append, outV_mapE, List.prefix_append_right_inj]
        obtain ⟨r, hr⟩ := hes
        refine List.IsPrefix.trans ⟨r.map eE, ?_⟩ (List.prefix_append ((tw t s2).map eE) (eC (t, q) :: evL (s2.drop (tw t s2).length) r2 b))
        rw [← hr, List.map_append])
      have HCAT : Hid ((pre ++ [(t, q)]) ++ r2 = closesD a b l) := Lib.hid (by rw [← hI.cat]; simp)
      have HC := Lib.hid hI.c
      have HBB := Lib.hid hB
      have HTS : Hid (∀ k, k = b1 ∨ k = b2 ∨ k = b3 ∨ k = b4 ∨ k = W.heap.size → ¬ S k ∧ It' k) := Lib.hid (fun k hk => by
        rcases hk with e | e | e | e | e
        · exact ⟨(HSB.out k (.inl e)).1, j1 k (HBI.out k (.inl e))⟩
        · exact ⟨(HSB.out k (.inr (.inl e))).1, j1 k (HBI.out k (.inr (.inl e)))⟩
        · exact ⟨(HSB.out k (.inr (.inr (.inl e)))).1, j1 k (HBI.out k (.inr (.inr (.inl e))))⟩
        · exact ⟨(HSB.out k (.inr (.inr (.inr e)))).1, j1 k (HBI.out k (.inr (.inr (.inr e))))⟩
        · rw [e]; exact ⟨fun hs => by have := HSL.out _ (.inl hs); omega, j2 _ HXY.out.1⟩)
      have HTR : Hid (∀ k, k < W4.heap.size → (Fo k ∨ RoC l (.slice p m c) ba bb bs k) → ¬ S k ∧ (It' k ∨ Ro k)) := Lib.hid (fun k hkl hk => by
        rcases hk with e | (e | e | e) | ⟨h0, e⟩
        · exact ⟨fun hs => hI.c.nfo k (.inl hs) e, .inl (j3 k e hkl)⟩
        · rw [e]; exact ⟨fun hs => by have := HSL.out _ (.inl hs); omega, .inl (j2 _ HXY.out.2.1)⟩
        · rw [e]; exact ⟨fun hs => by have := HSL.out _ (.inl hs); omega, .inl (j2 _ HXY.out.2.2.1)⟩
        · rw [e]; exact ⟨fun hs => by have := HSL.out _ (.inl hs); omega, .inl (j2 _ HXY.out.2.2.2)⟩
        · exact ⟨HSV.out (by have := HM.out; omega) k e, .inr (HVR.out (by have := HM.out; omega) k e)⟩)
      have HVT : Hid (0 < l.length → ∀ g, (Value.slice p m c).ownBlock = some g → ¬ S g ∧ Ro g) := Lib.hid (fun h0 g e => ⟨HSV.out (by have := HM.out; omega) g e, HVR.out (by have := HM.out; omega) g e⟩)
      have HJ1 := Lib.hid j1
      have HJ2 := Lib.hid j2
      have HJ3 := Lib.hid j3
      have HJ4 := Lib.hid j4
      have HS2 := Lib.hid hs2'
      clear hpre hI hB hev hs2' hmem hlen hbuf j1 j2 j3 j4 j5 j6 hfrW hseq
      gi_wp2
      refine ⟨trivial, CallsIn.inRound l2 (callsIn_wide.2 (HW.out.mono ?_))⟩
      rintro e0 w5 ⟨It2, es, q1, q2, q3, q4, q5, q6, hq⟩
      have HF1 : Hid (Fr (fun k => ¬ (Fo k ∨ RoC l (.slice p m c) ba bb bs k)) W4 w5) := Lib.hid ⟨q6.os, q6.tape, q6.output, q6.size, fun k hk hn => q6.block k hk (fun e => hn (fun h => by
        have h2 := HTR.out k hk h
        exact e.elim h2.1 (fun e => e h2.2)))⟩
      rcases hq with ⟨rfl, q7, q8⟩ | ⟨rfl, q7⟩
      · have HE5 := Lib.hid (HBB.out.fr q6 (fun k hk e => by
          have h := HTS.out k hk
          exact e.elim h.1 (fun e => e (.inl h.2))) (fun h0 g hg e => by
          have h := HVT.out h0 g hg
          exact e.elim h.1 (fun e => e (.inr h.2))))
        have HEC := Lib.hid (EvC.wait HC.out hfl HJ1.out HJ2.out HJ3.out HJ4.out q1 q2 q3 (by rw [← HS2.out]; exact q5) q6 (K' := J) q7)
        have hz4 := HC.out.fz.2
        have hz5 := q6.size
        have HI2 : Hid (∀ k, It2 k → It0 k ∨ W.heap.size ≤ k) := Lib.hid (fun k e => (q2 k e).elim (HJ4.out k) (fun e => .inr (by omega)))
        have HQ1 := Lib.hid q1
        have HQ3 := Lib.hid q3
        have HOK := Lib.hid (HOKc.out es q8)
        have cy5 := HE5.out.hy.2.cell
        obtain ⟨fn, tmps, assign, body, hy, hR⟩ := HY.out (xs ++ es.map evE) (evC (t, q)) It2 w5 HI2.out q3 (by omega) q7 ⟨HOK.out.1, ⟨World.ownsRow_nil _ _ _ _, by simp [evC, zE], fun p hp => (by cases hp), Nat.zero_le _, Nat.zero_le _, Nat.zero_le _⟩, fun g hg => (by cases hg)⟩
        simp only [encV, vvE, evC, zE] at hy
        have HR := Lib.hid hR
        clear q1 q2 q3 q4 q5 q6 q7 q8 hR hc1 hc2 hc4 hcy
        gi_wp2
        refine RoundIn.mono (RoundIn.nest HR.out) ?_
        rintro e0 W6 hrp
        rcases hrp.elim with ⟨rfl, hfr, hj3⟩ | ⟨rfl, hfr, hj3⟩
        · have HEND : Hid (Fr (fun k => ¬ (Fo k ∨ RoC l (.slice p m c) ba bb bs k)) W4 W6 ∧ EvB a b (.slice p m c) l B y b1 b2 b3 b4 W.heap.size Fo W6 ∧ ∃ xs rest, EvI S P It0 X B s W J (closesD a b l) b (pre ++ [(t, q)]) xs rest Fo W6) := Lib.hid ⟨HF1.out.trans hfr (fun k hk e h => e ((HTR.out k hk h).2.imp (HQ1.out k) id)), HE5.out.fr hfr (fun k hk e => e (.inl (HQ1.out k (HTS.out k hk).2))) (fun h0 g hg e => e (.inr (HVT.out h0 g hg).2)), _, r2, HCAT.out, HOK.out.2,
            EvC.close HEC.out (fun k e => HQ1.out k (HJ3.out k e (hfl k e))) HSI.out HPR.out (fun k e => HQ1.out k (HJ1.out k e)) (fun k e => HQ1.out k (HJ2.out k e)) HI2.out HQ3.out hfr hj3⟩
          clear hfr hj3 hrp HR hy cy5
          gi_wp2
          exact HEND.out
        · have HEND : Hid (Fr (fun k => ¬ (Fo k ∨ RoC l (.slice p m c) ba bb bs k)) W4 W6 ∧ ∃ xs, xs.map outV <+: evP a b l s ∧ EvC S P It0 X B s W Jx xs Fo W6) := Lib.hid ⟨HF1.out.trans hfr (fun k hk e h => e ((HTR.out k hk h).2.imp (HQ1.out k) id)), _, HOK.out.1,
            EvC.close HEC.out (fun k e => HQ1.out k (HJ3.out k e (hfl k e))) HSI.out HPR.out (fun k e => HQ1.out k (HJ1.out k e)) (fun k e => HQ1.out k (HJ2.out k e)) HI2.out HQ3.out hfr hj3⟩
          clear hfr hj3 hrp HR hy cy5
          gi_wp2
          exact ⟨HEND.out.1, rfl, HEND.out.2⟩
      · have HEND : Hid (Fr (fun k => ¬ (Fo k ∨ RoC l (.slice p m c) ba bb bs k)) W4 w5 ∧ ∃ xs, xs.map outV <+: evP a b l s ∧ EvC S P It0 X B s W Jx xs Fo w5) := Lib.hid ⟨HF1.out, _, HOKx.out es q4, EvC.wait HC.out hfl HJ1.out HJ2.out HJ3.out HJ4.out q1 q2 q3 (by rw [← HS2.out]; exact q5) q6 (K' := Jx) q7⟩
        clear q1 q2 q3 q4 q5 q6 q7 hc1 hc2 hc4 hcy
        gi_wp2
        refine ⟨fun f h => (by cases h), ?_⟩
        gi_wp2
        exact ⟨HEND.out.1, rfl, HEND.out.2⟩
    case done =>
      rintro D xs' It Fo W4 W6 hD hDl hIF hFD hIt hFo hdo hfr ⟨hB, xs, rest, hI⟩ hK
      have hrest : rest = [] := by
        have h1 := hI.cat
        rw [hdo, HCW.out] at h1
        exact List.append_right_eq_self.1 h1
      subst hrest
      obtain ⟨s2, hs2'⟩ : ∃ s2, s2 = s.drop (nE (xs.map outV)) := ⟨_, rfl⟩
      have hev := hI.ev
      rw [← hs2'] at hev
      obtain ⟨It', j1, j2, j3, j4, j5, j6⟩ := hI.c.j
      have hbuf := hI.c.buf
      rw [← hs2'] at hbuf
      have hmem : ∀ o ∈ s2, o ∈ s := fun o ho => by rw [hs2'] at ho; exact List.mem_of_mem_drop ho
      have hlen : s2.length ≤ s.length := by rw [hs2', List.length_drop]; omega
      have HEV : Hid (xs.map outV ++ (tw b s2).map eE = evP a b l s) := Lib.hid (by rw [HEP.out]; exact hev)
      have HW := Lib.hid (waiting_any S P Ro It0 It' B s2 b y J Jx (fun pre x => (pre ++ [x]).map outV <+: evP a b l s) xs W W4 HY.out HJ.out HJX.out hbuf (by omega) (fun o ho => HPS.out o (hmem o ho)) HPR.out (fun k e => j1 k (HSI.out k e)) j4 j5 hI.c.fz.2 j6 (fun pre' x' hp => by
        rw [← HEV.out]
        simp only [List.map_append, outV_mapE, List.map_cons, List.map_nil, List.append_assoc]
        rw [List.prefix_append_right_inj]
        simp only [List.map_append, List.map_cons, List.map_nil] at hp
        obtain ⟨r, hr⟩ := hp
        refine ⟨r.map eE, ?_⟩
        rw [← hr]; simp [outV_evE]))
      have hc2 := hB.h2.2.cell
      have hc4 := hB.h4.2.cell
      have hcy := hB.hy.2.cell
      have hz4 := hI.c.fz.2
      have HDS : Hid (It' D ∧ ¬ S D ∧ ¬ P D) := Lib.hid ⟨j3 D hFD hDl, fun e => hI.c.nfo D (.inl e) hFD, fun e => hI.c.nfo D (.inr e) hFD⟩
      have HDR : Hid (∀ es : List EE, s.drop (nE ((xs ++ es.map evE).map outV)) = s2.drop es.length) := Lib.hid (fun es => by rw [drop_ev, ← hs2'])
      have HJ1 := Lib.hid j1
      have HJ4 := Lib.hid j4
      have HK := Lib.hid hK
      clear hI hB hev hs2' hmem hlen hbuf j1 j2 j3 j4 j5 j6 hfr hseq hK hdo
      go_wp2_with fail
      refine HW.out.mono ?_
      rintro e0 w5 ⟨It2, es, q1, q2, q3, q4, q5, q6, hq⟩
      have hz5 := q6.size
      have HK5 : Hid (w5.heap[D]? = some (.deferred (some []))) := Lib.hid ((q6.block D hDl (fun e => e.elim HDS.out.2.1 (fun e => e (.inl HDS.out.1)))).trans HK.out)
      have hp := putObj_fr w5 D (.deferred none)
      have HFIN : Hid (∀ v, SeqEnd It0 W J Jx (fun xs _ W => xs.map outV = evP a b l s ∧ BufNow S P B (s.drop (nE (xs.map outV))) W) (fun pre _ W => pre.map outV <+: evP a b l s ∧ BufNow S P B (s.drop (nE (pre.map outV))) W) (.returned v) (w5.putObj D (.deferred none))) := Lib.hid (fun v => by
        have hb5 : BufNow S P B (s2.drop es.length) (w5.putObj D (.deferred none)) := q5.fr hp (fun k hk e => by
          have e2 : k = D := e
          subst e2
          exact hk.elim HDS.out.2.1 HDS.out.2.2)
        refine ⟨⟨_, rfl⟩, It2, fun k e => q1 k (HJ1.out k e), fun k e => (q2 k e).elim (HJ4.out k) (fun e => .inr (by omega)), ?_⟩
        have hD2 : ∀ i, i = D → It2 i := fun i e => by rw [e]; exact q1 D HDS.out.1
        rcases hq with ⟨-, q7, q8⟩ | ⟨-, q7⟩
        · refine .inl ⟨xs ++ es.map evE, HJ.out _ It2 It2 _ _ q7 (fun _ e => e) (fun _ e => .inl e) (hp.mono hD2), ?_, by rw [HDR.out]; exact hb5⟩
          rw [← HEV.out, List.map_append, outV_mapE, q8]
        · refine .inr ⟨xs ++ es.map evE, HJX.out _ It2 It2 _ _ q7 (fun _ e => e) (fun _ e => .inl e) (hp.mono hD2), ?_, by rw [HDR.out]; exact hb5⟩
          rw [← HEV.out, List.map_append, outV_mapE, List.prefix_append_right_inj]
          obtain ⟨r, hr⟩ := q4
          exact ⟨r.map eE, by rw [← hr, List.map_append]⟩)
      rcases hq with ⟨rfl, -, -⟩ | ⟨rfl, -⟩
      · clear q1 q2 q3 q4 q5 q6 hp hc2 hc4 hcy
        go_wp2_with fail
        refine leave_mark (D := D) HK5.out (leave_nil (by simp [results, Try.results51, go_sem]; rfl) (HFIN.out _))
      · clear q1 q2 q3 q4 q5 q6 hp hc2 hc4 hcy
        go_wp2_with fail
        refine leave_mark (D := D) HK5.out (leave_nil (by simp [results, Try.results51, go_sem]; rfl) (HFIN.out _))
    case stop =>
      rintro D c0 pre It Fo W4 W6 hD hDl hIF hFD hIt hFo hpo hfr ⟨rfl, xs, hpx, hC⟩ hK
      have HFIN : Hid (∀ v, SeqEnd It0 W J Jx (fun xs _ W => xs.map outV = evP a b l s ∧ BufNow S P B (s.drop (nE (xs.map outV))) W) (fun pre _ W => pre.map outV <+: evP a b l s ∧ BufNow S P B (s.drop (nE (pre.map outV))) W) (.returned v) (W4.putObj D (.deferred none))) := Lib.hid (fun v => by
        obtain ⟨It', j1, j2, j3, j4, j5, j6⟩ := hC.j
        have hp := putObj_fr W4 D (.deferred none)
        refine ⟨⟨_, rfl⟩, It', j1, j4, .inr ⟨xs, HJX.out _ It' It' _ _ j6 (fun _ e => e) (fun _ e => .inl e) (hp.mono (fun i e => by rw [e]; exact j3 D hFD hDl)), hpx, hC.buf.fr hp (fun k hk e => hC.nfo k hk (by have e2 : k = D := e; rw [e2]; exact hFD))⟩⟩)
      have HK := Lib.hid hK
      clear hC hK hfr hseq hpo hpx
      go_wp2_with fail
      refine leave_mark (D := D) HK.out (leave_nil (by simp [results, Try.results51, go_sem]; rfl) (HFIN.out _))
  · have hep : evP a b l s = [] := by unfold evP; rw [HCV.out, if_neg he]
    have hed : decide (e = 0) = false := by simpa using he
    have HE : Hid (∀ v, SeqEnd It0 W J Jx (fun xs _ W => xs.map outV = evP a b l s ∧ BufNow S P B (s.drop (nE (xs.map outV))) W) (fun pre _ W => pre.map outV <+: evP a b l s ∧ BufNow S P B (s.drop (nE (pre.map outV))) W) (.returned v) w2) := Lib.hid (fun v => ⟨⟨_, rfl⟩, It0, fun _ e => e, fun _ e => .inl e, .inl ⟨[], HJ0.out w2 (hgw.trans hg2), hep.symm, (HB0.out w2 hg2).1⟩⟩)
    go_wp2_with fail
    refine leave_nil (by simp [results, Try.results51, go_sem]; rfl) (HE.out _)
end Go.Proofs.Ythhmmjpgefinmaa

set_option maxRecDepth 10000
namespace Go.Proofs.Ythhmmjpgefinmaa
set_option linter.unusedVariables false
set_option linter.unusedSimpArgs false
open Go.RowKit Go.Shelf
attribute [local go_sem] Oper.semAt_some

theorem infoV : (Try.prog.info? 53).map (fun i => (i.zero, i.size, i.bytes)) = some (some (.agg #[.bool false, .string ⟨#[]⟩, .string ⟨#[]⟩, .string ⟨#[]⟩, .int .i64 0, .slice none 0 0, .int .i64 0, .int .i64 0]), 8, 104) := by kernel_rfl
def vcells (x : EV) : List Value := [.bool x.c, .string x.e.1.f, .string x.e.1.t, .string x.e.1.l, .int .i64 x.e.1.tm, x.e.1.v, .int .i64 x.q, .int .i64 x.a]
def vcs : List EV → List Value
  | [] => []
  | x :: l => .bool x.c :: .string x.e.1.f :: .string x.e.1.t :: .string x.e.1.l :: .int .i64 x.e.1.tm :: x.e.1.v :: .int .i64 x.q :: .int .i64 x.a :: vcs l
theorem vcs_app : ∀ l m : List EV, vcs (l ++ m) = vcs l ++ vcs m
  | [], m => rfl
  | x :: l, m => by simp only [vcs, List.cons_append, vcs_app l m]
theorem vcs_len : ∀ l : List EV, (vcs l).length = l.length * 8
  | [] => rfl
  | x :: l => by simp only [vcs, List.length_cons, vcs_len l]; omega
theorem vcs_get : ∀ {l : List EV} {k : Nat} {x : EV}, l[k]? = some x → (vcs l)[k * 8]? = some (.bool x.c) ∧ (vcs l)[k * 8 + 1]? = some (.string x.e.1.f) ∧ (vcs l)[k * 8 + 2]? = some (.string x.e.1.t) ∧ (vcs l)[k * 8 + 3]? = some (.string x.e.1.l) ∧ (vcs l)[k * 8 + 4]? = some (.int .i64 x.e.1.tm) ∧ (vcs l)[k * 8 + 5]? = some x.e.1.v ∧ (vcs l)[k * 8 + 6]? = some (.int .i64 x.q) ∧ (vcs l)[k * 8 + 7]? = some (.int .i64 x.a)
  | y :: l, 0, x, h => by cases h; exact ⟨rfl, rfl, rfl, rfl, rfl, rfl, rfl, rfl⟩
  | y :: l, k + 1, x, h => by
    obtain ⟨a, b, c, d, e, f, g, i⟩ := vcs_get (l := l) (k := k) (x := x) (by simpa using h)
    simp only [vcs, Nat.add_mul, Nat.one_mul]
    exact ⟨by simpa using a, by simpa using b, by simpa using c, by simpa using d, by simpa using e, by simpa using f, by simpa using g, by simpa using i⟩
theorem apart_ev {W : World} {base base' g : Nat} {E : Edg} {n : Nat} {v : Value} {xs : List Value} (h : OwnE W base E) (hr : W.ownsRow base' 53 8 v n xs) (hg : v.ownBlock = some g) : ∀ k, E.v.ownBlock = some k → k ≠ g := by
  rintro k hk rfl
  obtain ⟨c1, h1⟩ := own_type h.own hk
  obtain ⟨c2, h2⟩ := own_type hr hg
  rw [h1] at h2
  simp at h2
theorem evL_len : ∀ (cl : List (Int × Int)) (s : List Out) (b : Int), (evL s cl b).length ≤ s.length + cl.length
  | [], s, b => by
    simp only [evL, List.length_map, List.length_nil, Nat.add_zero]
    exact tw_len b s
  | c :: cl, s, b => by
    simp only [evL, List.length_append, List.length_map, List.length_cons]
    have h1 := evL_len cl (s.drop (tw c.1 s).length) b
    have h2 := tw_len c.1 s
    rw [List.length_drop] at h1
    omega
theorem evP_len (a b : Int) (l : List Slt) (s : List Out) : (evP a b l s).length ≤ s.length + 4096 := by
  unfold evP
  split
  · rename_i h
    have h1 := evL_len (closesD a b l) s b
    have h2 := (cntV_ok (n := (cntV a b l).1) (a := a) (b := b) (l := l) (Prod.ext rfl h)).2
    omega
  · simp
/-- what told shows -/
def ToldOut (S P : Nat → Prop) (B : Nat) (s : List Out) (a b : Int) (l : List Slt) (m : Nat) (w : World) (e : Ending) (w' : World) : Prop :=
  ∃ u L, e = .returned u ∧ w'.ownsRow w.heap.size 53 8 u L.length (vcs L) ∧ L.map outV = (evP a b l s).take m ∧ (∀ x ∈ L, OwnE w' w.heap.size x.e.1) ∧ (∀ g, u.ownBlock = some g → ¬ S g ∧ ¬ P g) ∧ BufNow S P B (s.drop (nE ((evP a b l s).take m))) w' ∧ Fr S w w'
theorem told_no (S P : Nat → Prop) (B : Nat) (s : List Out) (a b m : Int) (l : List Slt) (v : Value) (w : World) (h : BufNow S P B s w) (hr : RdrS w v l) (hm : m < 1) : Calls Try.prog 16 #[.pointer (some ⟨B, 0, none⟩), .int .i64 a, .int .i64 b, .int .i64 m, v] w (ToldOut S P B s a b l 0 w) := by
  have hgw : G w ((w.alloc (.cells #[.int .i64 m] 3)).alloc (.cells #[.slice none 0 0] 44)) := ((G.refl w).alloc _).alloc _
  have h0 := boxed_at w [.cells #[.int .i64 m] 3, .cells #[.slice none 0 0] 44] 0 3 (.int .i64 m) rfl
  simp only [Nat.add_zero] at h0
  have c0 := h0.cell
  change World.cell? ((w.alloc (.cells #[.int .i64 m] 3)).alloc (.cells #[.slice none 0 0] 44)) _ = _ at c0
  obtain ⟨p, c, rfl⟩ := hr.shape
  generalize l.length = n
  refine calls_of_marks Try.func16 rfl ?_
  simp only [Try.ntmps16, List.size_toArray, List.length_cons, List.length_nil, Nat.reduceAdd, Nat.reduceSub, Array.replicate_succ, Array.replicate_zero, List.push_toArray, List.append_toArray, List.nil_append, List.cons_append]
  go_wp2_with fail
  refine leave_nil (v := .slice none 0 0) (by simp [results, Try.results16, go_sem]) ⟨_, [], rfl, World.ownsRow_nil _ _ _ _, by simp, fun E hE => (by cases hE), fun g hg => (by cases hg), by
    rw [List.take_zero]
    show BufNow S P B (s.drop 0) _
    exact h.g hgw, hgw.fr _⟩
/-- the events that have come -/
structure TldA (P : Nat → Prop) (w : World) (m : Nat) (mv : Value) (pre : List EV) (S : Nat → Prop) (vo : Value) (Fo : Nat → Prop) (W : World) : Prop where
  bx : FBox w.heap.size 3 mv Fo W
  ob : FBox (w.heap.size + 1) 44 vo Fo W
  row : FRow (w.heap.size + 2) 53 8 vo pre.length (vcs pre) Fo W
  own : ∀ x ∈ pre, OwnE W (w.heap.size + 2) x.e.1 ∧ ∀ g, x.e.1.v.ownBlock = some g → ¬ Fo g
  fs : FS w S Fo W
def TldI (P : Nat → Prop) (w : World) (m : Nat) (mv : Value) (pre : List EV) (S : Nat → Prop) (Fo : Nat → Prop) (W : World) : Prop := ∃ vo, TldA P w m mv pre S vo Fo W
theorem TldI.stable (P : Nat → Prop) (w : World) (m : Nat) (mv : Value) (pre : List EV) (S : Nat → Prop) : Stable (TldI P w m mv pre S) := by
  intro Fo Fo' W W' ⟨vo, h⟩ a b c
  exact ⟨vo, Stable.box _ _ _ Fo Fo' W W' h.bx a b c, Stable.box _ _ _ Fo Fo' W W' h.ob a b c, Stable.row _ _ _ _ _ _ Fo Fo' W W' h.row a b c, fun x hx => ⟨(h.own x hx).1.fr c (fun g hg hf => (h.own x hx).2 g hg hf), fun g hg hf => (b g hf).elim ((h.own x hx).2 g hg) (fun e => by have := ((h.own x hx).1.own.lt g hg).2; omega)⟩, Stable.fs w S Fo Fo' W W' h.fs a b c⟩
theorem TldI.step {P S Fo : Nat → Prop} {w W w1 : World} {m : Nat} {mv vo v' : Value} {pre : List EV} {x : EV} {nb : Nat} (h : TldA P w m mv pre S vo Fo W) (hfl : ∀ k, Fo k → k < W.heap.size) (hz : w.heap.size + 2 ≤ W.heap.size) (hown : OwnE W nb x.e.1) (hnb : w.heap.size + 2 ≤ nb) (hxf : ∀ g, x.e.1.v.ownBlock = some g → ¬ Fo g) (hP : ∀ k, P k → k < w.heap.size)
    (hat : ∀ g, v'.ownBlock = some g → vo.ownBlock = some g ∨ W.heap.size + 1 ≤ g) (hfa : Fr (fun q => vo.ownBlock = some q) W w1) (hr : w1.ownsRow (w.heap.size + 2) 53 8 v' (pre.length + 1) (vcs pre ++ vcells x)) :
    TldA P w m mv (pre ++ [x]) S v' Fo (w1.setCell ⟨w.heap.size + 1, 0, none⟩ v') ∧ Fr (fun k => ¬ (Fo k ∨ P k)) W (w1.setCell ⟨w.heap.size + 1, 0, none⟩ v') := by
  have hrl := h.row.2.lt
  have hvb : ¬ vo.ownBlock = some (w.heap.size + 1) := fun e => by have := (hrl _ e).1; omega
  have hvb0 : ¬ vo.ownBlock = some w.heap.size := fun e => by have := (hrl _ e).1; omega
  have hset : Fr (fun q => q = w.heap.size + 1) w1 (w1.setCell ⟨w.heap.size + 1, 0, none⟩ v') := (Fr.refl (fun q => q = w.heap.size + 1) w1).setCell (p := ⟨w.heap.size + 1, 0, none⟩) (.inl rfl) _
  have hfF : Fr (fun k => ¬ (Fo k ∨ P k)) W (w1.setCell ⟨w.heap.size + 1, 0, none⟩ v') :=
    (hfa.mono (fun q e hq => hq.elim (h.row.1 q e) (fun x => by have h1 := hP q x; have h2 := (hrl q e).1; omega))).trans (T := fun k => ¬ (Fo k ∨ P k)) (hset.mono (fun q e hq => hq.elim (fun x => h.ob.1 (by rw [← e]; exact x)) (fun x => by have h1 := hP q x; have e2 : q = w.heap.size + 1 := e; omega))) (fun _ _ x => x)
  have hU : ∀ E, OwnE W (w.heap.size + 2) E → (∀ g, E.v.ownBlock = some g → ¬ vo.ownBlock = some g ∧ ¬ g = w.heap.size + 1) := fun E hE g hg2 => ⟨fun e => apart_ev hE h.row.2 e g hg2 rfl, fun e => by have := (hE.own.lt g hg2).1; omega⟩
  have hx2 : OwnE W (w.heap.size + 2) x.e.1 := ⟨ownsRow_mono hown.own hnb, hown.n, hown.ps, hown.f, hown.t, hown.l⟩
  refine ⟨⟨FBox.other _ ⟨h.bx.1, hfa.boxed h.bx.2 hvb0⟩ (by omega), FBox.set _ ⟨h.ob.1, hfa.boxed h.ob.2 hvb⟩, ⟨fun g hg2 hf => ?_, ?_⟩, fun y hy => ?_, h.fs.1, ?_⟩, hfF⟩
  · rcases hat g hg2 with e | e
    · exact h.row.1 g e hf
    · have h1 := hfl g hf; omega
  · rw [List.length_append, vcs_app]
    exact hset.ownsRow hr (fun g hg2 e => by have h1 := (hr.lt g hg2).1; have e2 : g = w.heap.size + 1 := e; omega)
  · have hy2 : OwnE W (w.heap.size + 2) y.e.1 ∧ ∀ g, y.e.1.v.ownBlock = some g → ¬ Fo g := by
      rcases List.mem_append.1 hy with e | e
      · exact h.own y e
      · rw [List.mem_singleton.1 e]; exact ⟨hx2, hxf⟩
    have h2 := hU y.e.1 hy2.1
    exact ⟨(hy2.1.fr hfa (fun g hg2 => (h2 g hg2).1)).fr hset (fun g hg2 => (h2 g hg2).2), hy2.2⟩
  · exact (h.fs.2.trans hfa (fun q hq e => by have := (hrl _ e).1; omega)).trans hset (fun q hq e => by have e2 : q = w.heap.size + 1 := e; omega)
set_option maxHeartbeats 8000000 in
theorem told_any (S P : Nat → Prop) (B : Nat) (s : List Out) (a b : Int) (l : List Slt) (v : Value) (m : Nat) (w : World) (h : BufNow S P B s w) (hr : RdrS w v l) (hnl : l.length ≤ 4611686018427387904) (hn : s.length ≤ 100000) (hps : ∀ o ∈ s, o.2.2.2.2.length ≤ 1000000) (hsv : 0 < l.length → ∀ g, v.ownBlock = some g → ¬ S g) (hm : 1 ≤ m) :
    Calls Try.prog 16 #[.pointer (some ⟨B, 0, none⟩), .int .i64 a, .int .i64 b, .int .i64 m, v] w (ToldOut S P B s a b l m w) := by
  have HH := Lib.hid h
  have hgw : G w ((w.alloc (.cells #[.int .i64 m] 3)).alloc (.cells #[.slice none 0 0] 44)) := ((G.refl w).alloc _).alloc _
  have h0 := boxed_at w [.cells #[.int .i64 m] 3, .cells #[.slice none 0 0] 44] 0 3 (.int .i64 m) rfl
  have h1 := boxed_at w [.cells #[.int .i64 m] 3, .cells #[.slice none 0 0] 44] 1 44 (.slice none 0 0) rfl
  simp only [Nat.add_zero] at h0
  change Boxed ((w.alloc (.cells #[.int .i64 m] 3)).alloc (.cells #[.slice none 0 0] 44)) _ _ _ at h0
  change Boxed ((w.alloc (.cells #[.int .i64 m] 3)).alloc (.cells #[.slice none 0 0] 44)) _ _ _ at h1
  have hzz : ((w.alloc (.cells #[.int .i64 m] 3)).alloc (.cells #[.slice none 0 0] 44)).heap.size = w.heap.size + 2 := by simp
  obtain ⟨i0, hi, hz0, hz1, hz2⟩ := info_parts infoV
  have hm1 : ¬ (m : Int) < 1 := by omega
  have hfn : ∀ (bs : Array Value) (w : World), (binOp BinOp.eql 74 (.func (.func 51) #[] bs) Value.nilFunc).run Try.prog w = .ok (.bool false) w := fun bs w => by kernel_rfl
  have c0 := h0.cell
  have hr3 := fun {X : World} (hX : G w X) => RdrS.g hr hX
  have HR := Lib.hid hr
  obtain ⟨p, c, hv⟩ := hr.shape
  have HEV := Lib.hid (fun X => events_any a b v B p l.length c hv X)
  have HVW : Hid (0 < l.length → ∀ g, v.ownBlock = some g → g < w.heap.size) := Lib.hid (fun h0 => hr.lt h0 (by omega))
  have HSV := Lib.hid hsv
  obtain ⟨n, hnn⟩ : ∃ n, n = l.length := ⟨_, rfl⟩
  have hv2 : v = .slice p n c := by rw [hnn]; exact hv
  subst hv2
  clear h hr hv hr3 hsv
  refine calls_of_marks Try.func16 rfl ?_
  simp only [Try.ntmps16, List.size_toArray, List.length_cons, List.length_nil, Nat.reduceAdd, Nat.reduceSub, Array.replicate_succ, Array.replicate_zero, List.push_toArray, List.append_toArray, List.nil_append, List.cons_append]
  go_upto_region 2 with fail
  try simp only [World.size_alloc]
  generalize ((w.alloc (.cells #[.int .i64 m] 3)).alloc (.cells #[.slice none 0 0] 44)) = W1 at hgw h0 h1 hzz c0 ⊢
  have HNN := Lib.hid hnn
  clear hnn
  go_wp2_with fail
  refine (HEV.out _).mono ?_
  rintro e w3 ⟨b1, b2, b3, b4, rfl, k1, k2, k3, k4, ⟨l1, l2, l3, l4⟩, hg13⟩
  have hgw3 := hgw.trans hg13
  have hb0 := hg13.boxed h0
  have hb1 := hg13.boxed h1
  have c0 := hb0.cell
  have hz13 := hg13.size
  rw [hzz] at l1 l2 l3 l4 hz13
  have hm1 := k1.lt
  have hm2 := k2.lt
  have hm3 := k3.lt
  have hm4 := k4.lt
  have hSl : ∀ k, S k ∨ P k → k < w.heap.size := HH.out.lt
  have hseq := events_seq S P B s a b l _ b1 b2 b3 b4 w3 (HH.out.g hgw3) k1 k2 k3 k4 (RdrS.g HR.out hgw3) hnl hn hps (fun k hk => ⟨fun e => by have := hSl k (.inl e); rcases hk with h | h | h | h <;> omega, fun e => by have := hSl k (.inr e); rcases hk with h | h | h | h <;> omega⟩) HSV.out
  have HSL := Lib.hid hSl
  have HIT : Hid (∀ k, (S k ∨ k = b1 ∨ k = b2 ∨ k = b3 ∨ k = b4) → k < w3.heap.size ∧ k ≠ w.heap.size ∧ k ≠ w.heap.size + 1 ∧ (S k ∨ w.heap.size ≤ k)) := Lib.hid (fun k hk => by
    rcases hk with h | h | h | h | h
    · have h1 := hSl k (.inl h); exact ⟨by omega, by omega, by omega, .inl h⟩
    all_goals exact ⟨by omega, by omega, by omega, .inr (by omega)⟩)
  obtain ⟨evs, hevs⟩ : ∃ evs, evs = evP a b l s := ⟨_, rfl⟩
  have HEN : Hid (evs.length ≤ 104096) := Lib.hid (by rw [hevs]; have := evP_len a b l s; omega)
  have HRW : Hid (∀ k, (P k ∨ (0 < l.length ∧ (Value.slice p n c).ownBlock = some k)) → k < w.heap.size) := Lib.hid (fun k hk => hk.elim (fun e => HSL.out k (.inr e)) (fun e => HVW.out e.1 k e.2))
  simp only [revs_args] at hseq ⊢
  rw [← hevs] at hseq
  have HEQ : Hid (∀ X, ToldOut S P B s a b l m w X = fun w' => ∃ u L, X = .returned u ∧ w'.ownsRow w.heap.size 53 8 u L.length (vcs L) ∧ L.map outV = evs.take m ∧ (∀ x ∈ L, OwnE w' w.heap.size x.e.1) ∧ (∀ g, u.ownBlock = some g → ¬ S g ∧ ¬ P g) ∧ BufNow S P B (s.drop (nE (evs.take m))) w' ∧ Fr S w w') := Lib.hid (fun X => by unfold ToldOut; rw [← hevs])
  clear k1 k2 k3 k4 h0 h1 hgw hSl hg13 hevs l1 l2 l3 l4 hm1 hm2 hm3 hm4
  go_wp2_with fail
  clear hfn
  refine range_wp3 (gf := 51) (lb := #[.pointer (some ⟨b1, 0, none⟩), .pointer (some ⟨b2, 0, none⟩), .pointer (some ⟨b3, 0, none⟩), .pointer (some ⟨b4, 0, none⟩)]) (fun x W => W.alloc (.cells #[.bool x.c, .string x.e.1.f, .string x.e.1.t, .string x.e.1.l, .int .i64 x.e.1.tm, x.e.1.v, .int .i64 x.q, .int .i64 x.a] 53)) (fun x W => (G.refl W).alloc _) rfl (enters_of Try.func51 (by kernel_rfl) rfl)
    (OKV.ok evs) hseq (G.refl _) (fun k hk => (HIT.out k hk).1) (fun k hk => by have := HRW.out k hk; omega) (fun _ => rfl)
    (fun pre Fo W => pre.length < m ∧ TldI (fun k => P k ∨ (0 < l.length ∧ (Value.slice p n c).ownBlock = some k)) w m (.int .i64 m) pre S Fo W)
    (fun c' pre Fo W => c' = .exit 0 ∧ pre.length = m ∧ TldI (fun k => P k ∨ (0 < l.length ∧ (Value.slice p n c).ownBlock = some k)) w m (.int .i64 m) pre S Fo W)
    (fun pre => (Stable.pure _).and (TldI.stable _ _ _ _ _ _))
    (fun c' pre => (Stable.pure _).and ((Stable.pure _).and (TldI.stable _ _ _ _ _ _)))
    ⟨by simp; omega, .slice none 0 0, ⟨fun h => (HIT.out _ h).2.1 rfl, hb0⟩, ⟨fun h => (HIT.out _ h).2.2.1 rfl, hb1⟩, ⟨fun _ h => (by cases h), World.ownsRow_nil _ _ _ _⟩, fun x hx => (by cases hx), ⟨fun k hk => (HIT.out k hk).2.2.2, hgw3.fr _⟩⟩
    (fun x W => { tmps := #[.pointer (some ⟨B, 0, none⟩), .int .i64 a, .int .i64 b, .int .i64 m, .slice p n c, undef, undef, undef, .pointer (some ⟨w.heap.size, 0, none⟩), undef, .slice none 0 0, .pointer (some ⟨w.heap.size + 1, 0, none⟩), .func (.func 51) #[] #[.pointer (some ⟨b1, 0, none⟩), .pointer (some ⟨b2, 0, none⟩), .pointer (some ⟨b3, 0, none⟩), .pointer (some ⟨b4, 0, none⟩)], .pointer (some ⟨W.heap.size, 0, none⟩), .int .i64 m, .bool false, .pointer (some ⟨B, 0, none⟩), .int .i64 a, .int .i64 b, .slice p n c, .func (.func 51) #[] #[.pointer (some ⟨b1, 0, none⟩), .pointer (some ⟨b2, 0, none⟩), .pointer (some ⟨b3, 0, none⟩), .pointer (some ⟨b4, 0, none⟩)], .func (.func 51) #[] #[.pointer (some ⟨b1, 0, none⟩), .pointer (some ⟨b2, 0, none⟩), .pointer (some ⟨b3, 0, none⟩), .pointer (some ⟨b4, 0, none⟩)], .bool false, undef, undef, .func (.func 51) #[] #[.pointer (some ⟨b1, 0, none⟩), .pointer (some ⟨b2, 0, none⟩), .pointer (some ⟨b3, 0, none⟩), .pointer (some ⟨b4, 0, none⟩)], .agg #[.bool x.c, .string x.e.1.f, .string x.e.1.t, .string x.e.1.l, .int .i64 x.e.1.tm, x.e.1.v, .int .i64 x.q, .int .i64 x.a], undef, undef, undef, undef, undef, undef, undef, undef, undef], defers := [] }) ?assign ?body ?done ?stop
  case assign =>
    intro l x W K hK
    obtain ⟨xc, ⟨⟨f, t, lb, tm, v, ps⟩, px, nx, cx, hv⟩, xq, xa⟩ := x
    simp only at hv
    subst hv
    simp only [encV, vvE]
    gi_wp2
    exact hK
  case body =>
    rintro l2 pre x Fo W0 W hW0 hW3 hfrW hfo hfl hsz2 ⟨hpm, vo, hA⟩ hok
    obtain ⟨xc, ⟨⟨xf, xt, xl, xm, v, ps⟩, px, nx, cx, hv⟩, xq, xa⟩ := x
    simp only at hv
    subst hv
    simp only at hfrW
    have hne8 : ¬ W0.heap.size = w3.heap.size + 1 := by omega
    have k0 : W.cell? ⟨W0.heap.size, 0, none⟩ = some (.bool xc) := hfrW.cell (p := ⟨W0.heap.size, 0, none⟩) hne8 (cell_alloc_at W0 [.bool xc, .string xf, .string xt, .string xl, .int .i64 xm, .slice px nx cx, .int .i64 xq, .int .i64 xa] 53 (0, 0) 0 _ rfl)
    have k1 : W.cell? ⟨W0.heap.size, 1, none⟩ = some (.string xf) := hfrW.cell (p := ⟨W0.heap.size, 1, none⟩) hne8 (cell_alloc_at W0 [.bool xc, .string xf, .string xt, .string xl, .int .i64 xm, .slice px nx cx, .int .i64 xq, .int .i64 xa] 53 (0, 0) 1 _ rfl)
    have k2 : W.cell? ⟨W0.heap.size, 2, none⟩ = some (.string xt) := hfrW.cell (p := ⟨W0.heap.size, 2, none⟩) hne8 (cell_alloc_at W0 [.bool xc, .string xf, .string xt, .string xl, .int .i64 xm, .slice px nx cx, .int .i64 xq, .int .i64 xa] 53 (0, 0) 2 _ rfl)
    have k3 : W.cell? ⟨W0.heap.size, 3, none⟩ = some (.string xl) := hfrW.cell (p := ⟨W0.heap.size, 3, none⟩) hne8 (cell_alloc_at W0 [.bool xc, .string xf, .string xt, .string xl, .int .i64 xm, .slice px nx cx, .int .i64 xq, .int .i64 xa] 53 (0, 0) 3 _ rfl)
    have k4 : W.cell? ⟨W0.heap.size, 4, none⟩ = some (.int .i64 xm) := hfrW.cell (p := ⟨W0.heap.size, 4, none⟩) hne8 (cell_alloc_at W0 [.bool xc, .string xf, .string xt, .string xl, .int .i64 xm, .slice px nx cx, .int .i64 xq, .int .i64 xa] 53 (0, 0) 4 _ rfl)
    have k5 : W.cell? ⟨W0.heap.size, 5, none⟩ = some (.slice px nx cx) := hfrW.cell (p := ⟨W0.heap.size, 5, none⟩) hne8 (cell_alloc_at W0 [.bool xc, .string xf, .string xt, .string xl, .int .i64 xm, .slice px nx cx, .int .i64 xq, .int .i64 xa] 53 (0, 0) 5 _ rfl)
    have k6 : W.cell? ⟨W0.heap.size, 6, none⟩ = some (.int .i64 xq) := hfrW.cell (p := ⟨W0.heap.size, 6, none⟩) hne8 (cell_alloc_at W0 [.bool xc, .string xf, .string xt, .string xl, .int .i64 xm, .slice px nx cx, .int .i64 xq, .int .i64 xa] 53 (0, 0) 6 _ rfl)
    have k7 : W.cell? ⟨W0.heap.size, 7, none⟩ = some (.int .i64 xa) := hfrW.cell (p := ⟨W0.heap.size, 7, none⟩) hne8 (cell_alloc_at W0 [.bool xc, .string xf, .string xt, .string xl, .int .i64 xm, .slice px nx cx, .int .i64 xq, .int .i64 xa] 53 (0, 0) 7 _ rfl)
    obtain ⟨lp, lc, hvl⟩ := ownsRow_shape hA.row.2
    subst hvl
    have hc0 := hA.bx.2.cell
    have hc1 := hA.ob.2.cell
    have hf1 := hA.ob.2.frozen
    have hrl := hA.row.2.lt
    have hpn : pre.length ≤ 104096 := by
      have h1 := hok.1
      have h2 := h1.length_le
      simp only [List.length_map, List.length_append, List.length_singleton] at h2
      have h3 := HEN.out
      omega
    obtain ⟨XX, hXX⟩ : ∃ X : EV, X = ⟨xc, ⟨⟨xf, xt, xl, xm, .slice px nx cx, ps⟩, px, nx, cx, rfl⟩, xq, xa⟩ := ⟨_, rfl⟩
    rw [← hXX] at hok ⊢
    have hec : vcells XX = [.bool xc, .string xf, .string xt, .string xl, .int .i64 xm, .slice px nx cx, .int .i64 xq, .int .i64 xa] := by rw [hXX]; rfl
    have HSTEP : Hid (∀ (w1' : World) (v' : Value), (∀ g, v'.ownBlock = some g → (Value.slice lp pre.length lc).ownBlock = some g ∨ W.heap.size + 1 ≤ g) → Fr (fun q => (Value.slice lp pre.length lc).ownBlock = some q) W w1' → w1'.ownsRow (w.heap.size + 2) 53 8 v' (pre.length + 1) (vcs pre ++ [.bool xc, .string xf, .string xt, .string xl, .int .i64 xm, .slice px nx cx, .int .i64 xq, .int .i64 xa]) → TldA (fun k => P k ∨ (0 < l.length ∧ (Value.slice p n c).ownBlock = some k)) w m (.int .i64 m) (pre ++ [XX]) S v' Fo (w1'.setCell ⟨w.heap.size + 1, 0, none⟩ v') ∧ Fr (fun k => ¬ (Fo k ∨ (P k ∨ (0 < l.length ∧ (Value.slice p n c).ownBlock = some k)))) W (w1'.setCell ⟨w.heap.size + 1, 0, none⟩ v')) := Lib.hid (fun w1' v' hat hfa hown =>
      TldI.step hA hfl (by omega) hok.2.1 (by omega) hok.2.2 HRW.out hat hfa (by rw [hec]; exact hown))
    clear hXX hec
    have HNB : Hid (∀ b, b < w.heap.size + 2 → ¬ (Value.slice lp pre.length lc).ownBlock = some b) := Lib.hid (fun b hb e => by have := (hrl _ e).1; omega)
    have HXX := Lib.hid (And.intro hA.bx.2 hA.ob.2)
    have HRW2 := Lib.hid hA.row.2
    obtain ⟨n1, hnn⟩ : ∃ n, n = pre.length := ⟨_, rfl⟩
    rw [← hnn] at hc1 hpm hpn HNB HXX HRW2 HSTEP
    have HN := Lib.hid hnn
    clear hfrW hok hA hrl hseq hb0 hb1 hnn
    by_cases hfull : n1 + 1 < m
    · have hfd : ¬ (n1 : Int) + 1 = (m : Int) := by omega
      gi_wp2_with (gi_at_builtin; refine wpListIn_append2 _ rfl _ _ 44 rfl (w.heap.size + 2) 53 i0 (.agg #[.bool false, .string ⟨#[]⟩, .string ⟨#[]⟩, .string ⟨#[]⟩, .int .i64 0, .slice none 0 0, .int .i64 0, .int .i64 0]) 8 104 Try.underlying44 hi hz0 hz1 hz2 rfl (by decide) (.slice lp n1 lc) n1 (vcs pre) rfl ((G.alloc (G.refl W) _).ownsRow HRW2.out) ⟨W.heap.size, 0, none⟩ 1 1 [.bool xc, .string xf, .string xt, .string xl, .int .i64 xm, .slice px nx cx, .int .i64 xq, .int .i64 xa] rfl rfl (World.news_of_block (cs := #[.bool xc, .string xf, .string xt, .string xl, .int .i64 xm, .slice px nx cx, .int .i64 xq, .int .i64 xa]) (t := 53) (fr := (0, 0)) (alloc_new W _)) (by simp [Value.oneCell']) (by unfold maxLen; omega) (by omega) (by simp; omega) ?_; intro v' w1' hown hgrow hnil hat; obtain ⟨op, oc, rfl⟩ := ownsRow_shape hown; have hfa : Fr (fun q => (Value.slice lp n1 lc).ownBlock = some q) W w1' := (((G.refl W).alloc _).fr _).trans (grownBy_fr hgrow) (fun _ _ x => x); have hxa := hfa.boxed HXX.out.1 (HNB.out _ (by omega)); have hxb := hfa.boxed HXX.out.2 (HNB.out _ (by omega)); have ca := hxa.cell; have cb := hxb.cell; have fb := hxb.frozen; have HST := Lib.hid (HSTEP.out w1' (.slice op (n1 + 1) oc) (fun g hg => by have := hat g hg; simpa using this) hfa hown); have HXB := Lib.hid (And.intro hxa hxb); clear hown hgrow hnil hat hxa hxb hfa k0 k1 k2 k3 k4 k5 k6 k7 hc0 hc1 hf1)
      exact ⟨HST.out.2, by rw [List.length_append, ← HN.out]; simpa using hfull, _, HST.out.1⟩
    · have hfd : (n1 : Int) + 1 = (m : Int) := by omega
      gi_wp2_with (gi_at_builtin; refine wpListIn_append2 _ rfl _ _ 44 rfl (w.heap.size + 2) 53 i0 (.agg #[.bool false, .string ⟨#[]⟩, .string ⟨#[]⟩, .string ⟨#[]⟩, .int .i64 0, .slice none 0 0, .int .i64 0, .int .i64 0]) 8 104 Try.underlying44 hi hz0 hz1 hz2 rfl (by decide) (.slice lp n1 lc) n1 (vcs pre) rfl ((G.alloc (G.refl W) _).ownsRow HRW2.out) ⟨W.heap.size, 0, none⟩ 1 1 [.bool xc, .string xf, .string xt, .string xl, .int .i64 xm, .slice px nx cx, .int .i64 xq, .int .i64 xa] rfl rfl (World.news_of_block (cs := #[.bool xc, .string xf, .string xt, .string xl, .int .i64 xm, .slice px nx cx, .int .i64 xq, .int .i64 xa]) (t := 53) (fr := (0, 0)) (alloc_new W _)) (by simp [Value.oneCell']) (by unfold maxLen; omega) (by omega) (by simp; omega) ?_; intro v' w1' hown hgrow hnil hat; obtain ⟨op, oc, rfl⟩ := ownsRow_shape hown; have hfa : Fr (fun q => (Value.slice lp n1 lc).ownBlock = some q) W w1' := (((G.refl W).alloc _).fr _).trans (grownBy_fr hgrow) (fun _ _ x => x); have hxa := hfa.boxed HXX.out.1 (HNB.out _ (by omega)); have hxb := hfa.boxed HXX.out.2 (HNB.out _ (by omega)); have ca := hxa.cell; have cb := hxb.cell; have fb := hxb.frozen; have HST := Lib.hid (HSTEP.out w1' (.slice op (n1 + 1) oc) (fun g hg => by have := hat g hg; simpa using this) hfa hown); have HXB := Lib.hid (And.intro hxa hxb); clear hown hgrow hnil hat hxa hxb hfa k0 k1 k2 k3 k4 k5 k6 k7 hc0 hc1 hf1)
      exact ⟨HST.out.2, rfl, by rw [List.length_append, ← HN.out]; simp; omega, _, HST.out.1⟩
  case done =>
    rintro D xs It Fo W W3 hD hDl hIF hFD hIt hFo ⟨hdo, hnow⟩ hfr ⟨hlm, vo, hA⟩ hK
    obtain ⟨lp, lc, hvl⟩ := ownsRow_shape hA.row.2
    subst hvl
    have htk : evs.take m = xs.map outV := by
      rw [← hdo, List.take_of_length_le (by rw [List.length_map]; omega)]
    have hnW : BufNow S P B (s.drop (nE (xs.map outV))) W := hnow.fr hfr (fun k hk e => by have := HSL.out k hk; have e2 : k = w3.heap.size + 1 := e; omega)
    have hc1 := hA.ob.2.cell
    have HFIN : Hid (ToldOut S P B s a b l m w (.returned (.slice lp xs.length lc)) (W.putObj D (.deferred none))) := Lib.hid (by
      rw [HEQ.out]
      have hp := putObj_fr W D (.deferred none)
      refine ⟨_, xs, rfl, ?_, htk.symm, fun x hx => ?_, fun g hg => ?_, ?_, hA.fs.2.trans hp (fun i hi e => by have e2 : i = D := e; omega)⟩
      · exact ownsRow_mono (hp.ownsRow hA.row.2 (fun g hg e => hA.row.1 g hg (by rw [e]; exact hFD))) (by omega)
      · have h1 := (hA.own x hx).1.fr hp (fun g hg e => (hA.own x hx).2 g hg (by rw [e]; exact hFD))
        exact ⟨ownsRow_mono h1.own (by omega), h1.n, h1.ps, h1.f, h1.t, h1.l⟩
      · have h1 := (hA.row.2.lt g hg).1
        exact ⟨fun hc => by have := HSL.out g (.inl hc); omega, fun hc => by have := HSL.out g (.inr hc); omega⟩
      · rw [htk]
        exact hnW.fr hp (fun k hk e => by have := HSL.out k hk; have e2 : k = D := e; omega))
    have HK := Lib.hid hK
    clear hA htk hnW hnow hK hseq hfr hb0 hb1 hdo
    generalize xs.length = n1 at hc1 HFIN hlm ⊢
    clear hlm
    go_wp2_with fail
    refine leave_mark (D := D) HK.out (leave_nil (v := .slice lp n1 lc) (by simp [results, Try.results16, go_sem]) HFIN.out)
  case stop =>
    rintro D c' pre It Fo W W3 hD hDl hIF hFD hIt hFo ⟨hpo, hnow⟩ hfr ⟨rfl, hlm, vo, hA⟩ hK
    obtain ⟨lp, lc, hvl⟩ := ownsRow_shape hA.row.2
    subst hvl
    have htk : evs.take m = pre.map outV := by
      have h1 := List.prefix_iff_eq_take.1 hpo
      rw [List.length_map, hlm] at h1
      exact h1.symm
    have hnW : BufNow S P B (s.drop (nE (pre.map outV))) W := hnow.fr hfr (fun k hk e => by have := HSL.out k hk; have e2 : k = w3.heap.size + 1 := e; omega)
    have hc1 := hA.ob.2.cell
    have HFIN : Hid (ToldOut S P B s a b l m w (.returned (.slice lp pre.length lc)) (W.putObj D (.deferred none))) := Lib.hid (by
      rw [HEQ.out]
      have hp := putObj_fr W D (.deferred none)
      refine ⟨_, pre, rfl, ?_, htk.symm, fun x hx => ?_, fun g hg => ?_, ?_, hA.fs.2.trans hp (fun i hi e => by have e2 : i = D := e; omega)⟩
      · exact ownsRow_mono (hp.ownsRow hA.row.2 (fun g hg e => hA.row.1 g hg (by rw [e]; exact hFD))) (by omega)
      · have h1 := (hA.own x hx).1.fr hp (fun g hg e => (hA.own x hx).2 g hg (by rw [e]; exact hFD))
        exact ⟨ownsRow_mono h1.own (by omega), h1.n, h1.ps, h1.f, h1.t, h1.l⟩
      · have h1 := (hA.row.2.lt g hg).1
        exact ⟨fun hc => by have := HSL.out g (.inl hc); omega, fun hc => by have := HSL.out g (.inr hc); omega⟩
      · rw [htk]
        exact hnW.fr hp (fun k hk e => by have := HSL.out k hk; have e2 : k = D := e; omega))
    have HK := Lib.hid hK
    clear hA htk hnW hnow hK hseq hfr hb0 hb1 hpo
    generalize pre.length = n1 at hc1 HFIN hlm ⊢
    clear hlm
    go_wp2_with fail
    refine leave_mark (D := D) HK.out (leave_nil (v := .slice lp n1 lc) (by simp [results, Try.results16, go_sem]) HFIN.out)
end Go.Proofs.Ythhmmjpgefinmaa
