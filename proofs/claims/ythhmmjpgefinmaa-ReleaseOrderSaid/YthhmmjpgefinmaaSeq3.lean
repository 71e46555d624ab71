/- .. where what is handed out lies in blocks that are the caller's from then on -/
import Derived.Test.YthhmmjpgefinmaaGB
namespace Go.Proofs.Ythhmmjpgefinmaa
set_option linter.unusedVariables false
open Go.RowKit
/-- the iterator's contract: what is handed out may lie in memory -/
def Seq3 {α : Type} (P : Program) (g : Nat) (lb : Array Value) (encs : α → Array Value) (Ro It0 : Nat → Prop) (Done Part : List α → (Nat → Prop) → World → Prop) (OK : Nat → List α → α → (Nat → Prop) → World → Prop) (w : World) : Prop :=
  ∀ (l : Nat) (J Jx : List α → (Nat → Prop) → World → Prop) (W : World), G w W → (∀ p, Stable (J p)) → (∀ p, Stable (Jx p)) →
    (∀ pre x It W1, (∀ k, It k → It0 k ∨ W.heap.size ≤ k) → (∀ k, It k → k < W1.heap.size) → W.heap.size ≤ W1.heap.size → J pre It W1 → OK W.heap.size pre x It W1 → YieldAt Fence.wide 2 P l (encs x) W1 (RoundPost Ro J Jx (pre ++ [x]) It W1)) →
    J [] It0 W →
    Calls P g (#[.func (.yield l) #[] #[]] ++ lb) W (SeqEnd It0 W J Jx Done Part)
/-- THE LAW, where the assignment of the round lays new blocks: mk x W is the world behind it -/
theorem range_law3 {α : Type} {P : Program} {g : Operand} {ps : Array Tmp} {assign body : Code} {Q : Exit → Act → World → Prop} {a : Act} {w : World}
    {gf : Nat} {lb : Array Value} (mk : α → World → World) (hmk : ∀ x W, G W (mk x W)) (hg : a.eval g = .func (.func gf) #[] lb) (eg : ∀ args w, (callFunc gf args).run P w = .ok (.enter gf args) w)
    {encs : α → Array Value} {Ro It0 : Nat → Prop} {Done Part : List α → (Nat → Prop) → World → Prop} {OK : Nat → List α → α → (Nat → Prop) → World → Prop} {w0 : World} (hOK : ∀ n pre x It It' W W', OK n pre x It W → (∀ k, It' k → It k ∨ k < n) → Fr (fun k => k < n) W W' → OK n pre x It' W') (hseq : Seq3 P gf lb encs Ro It0 Done Part OK w0)
    (hw0 : G w0 w) (hIt0 : ∀ k, It0 k → k < w.heap.size) (hRo : ∀ k, Ro k → k < w.heap.size) (hps : ∀ x, (encs x).size = ps.size)
    (I : List α → (Nat → Prop) → World → Prop) (Ix : Code → List α → (Nat → Prop) → World → Prop) (hI : ∀ p, Stable (I p)) (hIx : ∀ c p, Stable (Ix c p)) (h0 : I [] It0 w)
    (a₁ : α → World → Act)
    (hassign : ∀ (l : Nat) (x : α) (W : World) (K : Act → World → Prop), K (a₁ x W) (mk x W) →
      assign.wpIn (Fence.wide.inRound l) 2 P (Exit.then K (fun _ _ _ => False)) { tmps := (ps.zip (encs x)).foldl (fun t (p, v) => t.setIfInBounds p v) a.tmps, defers := [] } W)
    (hbody : ∀ (l : Nat) (pre : List α) (x : α) (Fo : Nat → Prop) (W0 W : World), W0.heap.size ≤ W.heap.size → w.heap.size + 2 ≤ W0.heap.size → Fr (fun k => k = w.heap.size + 1) (mk x W0) W → (∀ k, Fo k → It0 k ∨ w.heap.size ≤ k) → (∀ k, Fo k → k < W.heap.size) → w.heap.size ≤ W.heap.size → I pre Fo W → OK (w.heap.size + 2) pre x Fo W →
      body.wpIn (Fence.wide.inRound l) 2 P (bodyOut Ro I Ix (pre ++ [x]) Fo W) (a₁ x W0) W)
    (hdone : ∀ (D : Nat) (xs : List α) (It Fo : Nat → Prop) (W W3 : World), w.heap.size ≤ D → D < W.heap.size → (∀ k, It k → Fo k) → Fo D → (∀ k, It k → It0 k ∨ w.heap.size < k) → (∀ k, Fo k → It0 k ∨ w.heap.size ≤ k) → Done xs It W3 → Fr (fun k => k = w.heap.size + 1) W3 W → I xs Fo W → W.heap[D]? = some (.deferred (some [])) →
      Q .normal { a with defers := { target := .collected D, args := #[] } :: a.defers } W)
    (hstop : ∀ (D : Nat) (c : Code) (pre : List α) (It Fo : Nat → Prop) (W W3 : World), w.heap.size ≤ D → D < W.heap.size → (∀ k, It k → Fo k) → Fo D → (∀ k, It k → It0 k ∨ w.heap.size < k) → (∀ k, Fo k → It0 k ∨ w.heap.size ≤ k) → Part pre It W3 → Fr (fun k => k = w.heap.size + 1) W3 W → Ix c pre Fo W → W.heap[D]? = some (.deferred (some [])) →
      c.wpIn Fence.wide 3 P Q { a with defers := { target := .collected D, args := #[] } :: a.defers } W) :
    (Code.rangeFunc g ps assign body).wpIn Fence.wide 3 P Q a w := by
  refine wpIn_rangeFunc ?_
  intro fn hfn
  show ∃ _, _
  obtain ⟨rec, hrec⟩ : ∃ rec : LoopState → Option Code → Loop, rec = fun st pe => { state := st, pending := pe, fn, tmps := a.tmps, params := ps, assign, body, defers := w.heap.size } := ⟨_, rfl⟩
  obtain ⟨W1, hW1⟩ : ∃ W1, (w.alloc (.deferred (some []))).alloc (.loop (rec .ready none)) = W1 := ⟨_, rfl⟩
  have hL1 : W1.heap[w.heap.size + 1]? = some (.loop (rec .ready none)) := by
    rw [← hW1]; have := World.alloc_heap_new (w.alloc (.deferred (some []))) (.loop (rec .ready none)); rwa [World.size_alloc] at this
  have hK1 : W1.heap[w.heap.size]? = some (.deferred (some [])) := by
    rw [← hW1]; exact (Below.heap_alloc _ _ _ (by simp)).trans (World.alloc_heap_new w _)
  have hs1 : W1.heap.size = w.heap.size + 2 := by rw [← hW1]; simp
  have hG1 : G w W1 := by rw [← hW1]; exact ((G.refl w).alloc _).alloc _
  -- the caller's own blocks of book-keeping
  let fo : (Nat → Prop) → Nat → Prop := fun It k => It k ∨ k = w.heap.size ∨ k = w.heap.size + 1
  have hI1 : I [] (fo It0) W1 := hI [] It0 (fo It0) w W1 h0 (fun k hk => .inl hk) (fun k hk => hk.elim .inl (fun h => .inr (by omega))) (hG1.fr _)
  refine ⟨w.heap.size + 1, [{ target := .collected w.heap.size, args := #[] }], W1, { target := .fn (.func gf) lb, args := #[.func (.yield (w.heap.size + 1)) #[] #[]] }, W1, gf,
    #[.func (.yield (w.heap.size + 1)) #[] #[]] ++ lb, W1, ?_, ?_, ?_, ?_, fun h => by simp [Fence.wide] at h, ?_⟩
  · rw [← hW1, hrec]; exact run_enterLoop_outer _ _ _ _ _
  · simp only [resolve, hg]
    simp [go_sem]
  · intro f' _; trivial
  · simp [invoke, go_sem, eg]
  · -- J: the body's invariant, with the two blocks of book-keeping
    have hJs : ∀ (B : (Nat → Prop) → World → Prop) (st : LoopState) (pe : Option Code), Stable B → Stable (fun It W => B (fo It) W ∧ (∀ k, It k → It0 k ∨ w.heap.size + 2 ≤ k) ∧ w.heap.size + 2 ≤ W.heap.size ∧ W.heap[w.heap.size + 1]? = some (.loop (rec st pe)) ∧ W.heap[w.heap.size]? = some (.deferred (some []))) := by
      intro B st pe hB Fo Fo' W W' ⟨h1, h2, h3, h4, h5⟩ hsub hnew hfr
      have hn0 : ¬ Fo (w.heap.size + 1) := fun h => (h2 _ h).elim (fun h => absurd (hIt0 _ h) (by omega)) (fun h => by omega)
      have hn1 : ¬ Fo w.heap.size := fun h => (h2 _ h).elim (fun h => absurd (hIt0 _ h) (by omega)) (fun h => by omega)
      refine ⟨hB (fo Fo) (fo Fo') W W' h1 (fun k hk => hk.imp (hsub k) id) (fun k hk => hk.elim (fun hk => (hnew k hk).imp .inl id) (fun hk => .inl (.inr hk))) (hfr.mono (fun i hi => .inl hi)),
        fun k hk => (hnew k hk).elim (h2 k) (fun h => .inr (by omega)), Nat.le_trans h3 hfr.size, (hfr.block _ (by omega) hn0).trans h4, (hfr.block _ (by omega) hn1).trans h5⟩
    refine CallsIn.mono (callsIn_wide.2 (hseq (w.heap.size + 1)
      (fun pre It W => I pre (fo It) W ∧ (∀ k, It k → It0 k ∨ w.heap.size + 2 ≤ k) ∧ w.heap.size + 2 ≤ W.heap.size ∧ W.heap[w.heap.size + 1]? = some (.loop (rec .ready none)) ∧ W.heap[w.heap.size]? = some (.deferred (some [])))
      (fun pre It W => ∃ c, Ix c pre (fo It) W ∧ (∀ k, It k → It0 k ∨ w.heap.size + 2 ≤ k) ∧ w.heap.size + 2 ≤ W.heap.size ∧ W.heap[w.heap.size + 1]? = some (.loop (rec .done (some c))) ∧ W.heap[w.heap.size]? = some (.deferred (some [])))
      W1 (hw0.trans hG1) (fun p => hJs _ _ _ (hI p))
      (fun p Fo Fo' W W' h a b c => by obtain ⟨cd, h⟩ := h; exact ⟨cd, hJs _ .done (some cd) (hIx cd p) Fo Fo' W W' h a b c⟩)
      ?_ ⟨hI1, fun k hk => .inl hk, by omega, hL1, hK1⟩)) ?_
    · -- ONE ROUND
      rintro pre x It W hItx hlt hsz ⟨hi, h2, h3, hl, hk⟩ hok
      have hy := run_yield (P := P) (args := encs x) hl (by rw [hrec]; exact hps x)
      rw [hrec] at hy
      have hgm := hmk x W
      have hzm := hgm.size
      obtain ⟨Wm, hWm⟩ : ∃ Wm, mk x W = Wm := ⟨_, rfl⟩
      rw [hWm] at hgm hzm
      have hlm := (hgm.block (k := w.heap.size + 1) (by omega)).trans hl
      have hkm := (hgm.block (k := w.heap.size) (by omega)).trans hk
      refine ⟨fn, _, assign, body, hy, roundIn_of_wpIn hfn (hassign _ x W _ ?_)⟩
      rw [hWm]
      refine ⟨_, run_beginRound hlm (by rw [hrec]), ?_⟩
      have hfol : fo It (w.heap.size + 1) := .inr (.inr rfl)
      have hfoD : fo It w.heap.size := .inr (.inl rfl)
      obtain ⟨W2, hW2⟩ : ∃ W2, (Wm.putObj (w.heap.size + 1) (.loop { rec .ready none with state := .busy })) = W2 := ⟨_, rfl⟩
      have hl2 : W2.heap[w.heap.size + 1]? = some (.loop { rec .ready none with state := .busy }) := by rw [← hW2]; exact World.putObj_heap_same (by omega)
      have hk2 : W2.heap[w.heap.size]? = some (.deferred (some [])) := by rw [← hW2]; exact (World.putObj_heap_other (by omega)).trans hkm
      have hfm : Fr (fun k => k = w.heap.size + 1) Wm W2 := by rw [← hW2]; exact putObj_fr _ _ _
      have hf2 : Fr (fun k => k = w.heap.size + 1) W W2 := (hgm.fr _).trans hfm (fun _ _ h => h)
      have hs2 : W2.heap.size = Wm.heap.size := by rw [← hW2]; simp
      have hi2 : I pre (fo It) W2 := hI pre _ _ _ _ hi (fun _ h => h) (fun _ h => .inl h) (hf2.mono (fun i e => by subst e; exact hfol))
      show Code.wpIn _ _ _ _ _ _ (Wm.putObj (w.heap.size + 1) (.loop { rec .ready none with state := .busy }))
      rw [hW2]
      refine wpIn_mono (hbody _ pre x (fo It) W W2 (by omega) (by omega) (by rw [hWm]; exact hfm) (fun k hk => hk.elim (fun hk => (h2 k hk).imp id (fun h => by omega)) (fun hk => .inr (by omega)))
        (fun k hk => by rw [hs2]; exact hk.elim (fun h => Nat.lt_of_lt_of_le (hlt k h) hzm) (fun h => by omega)) (by omega) hi2 (hOK _ _ _ _ _ _ _ (hs1 ▸ hok) (fun k hk => hk.imp id (fun e => by omega)) (hf2.mono (fun k e => by have e2 : k = w.heap.size + 1 := e; omega)))) ?_
      have fin : ∀ (jump : Option Code) (W3 : World), Fr (fun k => ¬ (fo It k ∨ Ro k)) W2 W3 →
          (Instr.endRound (w.heap.size + 1) jump).run P W3 = .ok (.bool jump.isNone) (W3.putObj (w.heap.size + 1) (.loop (rec (if jump.isNone then .ready else .done) jump))) ∧
          Fr (fun k => ¬ (It k ∨ Ro k)) W (W3.putObj (w.heap.size + 1) (.loop (rec (if jump.isNone then .ready else .done) jump))) ∧
          (∀ B : (Nat → Prop) → World → Prop, Stable B → B (fo It) W3 → B (fo It) (W3.putObj (w.heap.size + 1) (.loop (rec (if jump.isNone then .ready else .done) jump)))) ∧
          w.heap.size + 2 ≤ (W3.putObj (w.heap.size + 1) (.loop (rec (if jump.isNone then .ready else .done) jump))).heap.size ∧
          (W3.putObj (w.heap.size + 1) (.loop (rec (if jump.isNone then .ready else .done) jump))).heap[w.heap.size + 1]? = some (.loop (rec (if jump.isNone then .ready else .done) jump)) ∧
          (W3.putObj (w.heap.size + 1) (.loop (rec (if jump.isNone then .ready else .done) jump))).heap[w.heap.size]? = some (.deferred (some [])) := fun jump W3 hk3 => by
        have hl3 := (hk3.block _ (by omega) (fun h => h (.inl hfol))).trans hl2
        have hd3 := (hk3.block _ (by omega) (fun h => h (.inl hfoD))).trans hk2
        have hz := hk3.size
        have := run_endRound (P := P) jump hl3
        rw [hrec] at this ⊢
        refine ⟨this, ?_, fun B hB hb => hB _ _ _ _ hb (fun _ h => h) (fun _ h => .inl h) ((putObj_fr _ _ _).mono (fun i e => by subst e; exact hfol)), by simp; omega, World.putObj_heap_same (by omega), (World.putObj_heap_other (by omega)).trans hd3⟩
        have hnl : ∀ i, i = w.heap.size + 1 → ¬ (It i ∨ Ro i) := by
          rintro i rfl (h | h)
          · exact (h2 _ h).elim (fun h => absurd (hIt0 _ h) (by omega)) (fun h => by omega)
          · exact absurd (hRo _ h) (by omega)
        refine (hf2.mono hnl).trans (T := fun k => ¬ (It k ∨ Ro k)) ((hk3.mono (fun i hi (hn : It i ∨ Ro i) => hi (hn.imp .inl id))).trans (T := fun k => k = w.heap.size + 1) (putObj_fr _ _ _) (fun i _ e => hnl i e)) (fun _ _ h => h)
      rintro e a3 W3 hp
      cases e with
      | normal =>
        obtain ⟨hk3, hi3⟩ := hp
        obtain ⟨hr, hf, hB, hz, hl4, hk4⟩ := fin none W3 hk3
        exact ⟨_, _, hr, hf, .inl ⟨rfl, hB _ (hI _) hi3, h2, hz, hl4, hk4⟩⟩
      | ret =>
        obtain ⟨hk3, hi3⟩ := hp
        obtain ⟨hr, hf, hB, hz, hl4, hk4⟩ := fin (some .ret) W3 hk3
        exact ⟨_, _, hr, hf, .inr ⟨rfl, .ret, hB _ (hIx _ _) hi3, h2, hz, hl4, hk4⟩⟩
      | exit id =>
        obtain ⟨hk3, hi3⟩ := hp
        obtain ⟨hr, hf, hB, hz, hl4, hk4⟩ := fin (some (.exit id)) W3 hk3
        exact ⟨_, _, hr, hf, .inr ⟨rfl, .exit id, hB _ (hIx _ _) hi3, h2, hz, hl4, hk4⟩⟩
      | goto t =>
        obtain ⟨hk3, hi3⟩ := hp
        obtain ⟨hr, hf, hB, hz, hl4, hk4⟩ := fin (some (.goto t)) W3 hk3
        exact ⟨_, _, hr, hf, .inr ⟨rfl, .goto t, hB _ (hIx _ _) hi3, h2, hz, hl4, hk4⟩⟩
      | panic ch => exact hp.elim
      | outgrown => exact hp.elim
    · -- BEHIND THE ITERATOR
      have hfoi : ∀ (It : Nat → Prop), (∀ k, It k → It0 k ∨ w.heap.size + 2 ≤ k) → ∀ k, fo It k → It0 k ∨ w.heap.size ≤ k := fun It h k hk =>
        hk.elim (fun hk => (h k hk).imp id (fun h => by omega)) (fun hk => .inr (by omega))
      rintro e W2 ⟨⟨v, rfl⟩, It, hsub, hnew, (⟨xs, ⟨hi, h2, h3, hl, hk⟩, hD⟩ | ⟨pre, ⟨c, hi, h2, h3, hl, hk⟩, hP⟩)⟩
      · refine ⟨none, _, by have := run_endLoop (P := P) hl (by rw [hrec]; simp); rw [hrec] at this; exact this, ?_⟩
        exact hdone w.heap.size xs It (fo It) _ W2 (Nat.le_refl _) (by simp; omega) (fun k h => .inl h) (.inr (.inl rfl)) (fun k h => (h2 k h).imp id (fun h => by omega)) (hfoi It h2) hD (putObj_fr _ _ _)
          (hI _ _ _ _ _ hi (fun _ h => h) (fun _ h => .inl h) ((putObj_fr _ _ _).mono (fun i e => by subst e; exact .inr (.inr rfl)))) ((World.putObj_heap_other (by omega)).trans hk)
      · refine ⟨some c, _, by have := run_endLoop (P := P) hl (by rw [hrec]; simp); rw [hrec] at this; exact this, ?_⟩
        exact hstop w.heap.size c pre It (fo It) _ W2 (Nat.le_refl _) (by simp; omega) (fun k h => .inl h) (.inr (.inl rfl)) (fun k h => (h2 k h).imp id (fun h => by omega)) (hfoi It h2) hP (putObj_fr _ _ _)
          (hIx _ _ _ _ _ _ hi (fun _ h => h) (fun _ h => .inl h) ((putObj_fr _ _ _).mono (fun i e => by subst e; exact .inr (.inr rfl)))) ((World.putObj_heap_other (by omega)).trans hk)

/-- THE LAW, in the plain walk -/
theorem range_wp3 {α : Type} {P : Program} {g : Operand} {ps : Array Tmp} {assign body : Code} {Q : Exit → Act → World → Prop} {a : Act} {w : World}
    {gf : Nat} {lb : Array Value} (mk : α → World → World) (hmk : ∀ x W, G W (mk x W)) (hg : a.eval g = .func (.func gf) #[] lb) (eg : ∀ args w, (callFunc gf args).run P w = .ok (.enter gf args) w)
    {encs : α → Array Value} {Ro It0 : Nat → Prop} {Done Part : List α → (Nat → Prop) → World → Prop} {OK : Nat → List α → α → (Nat → Prop) → World → Prop} {w0 : World} (hOK : ∀ n pre x It It' W W', OK n pre x It W → (∀ k, It' k → It k ∨ k < n) → Fr (fun k => k < n) W W' → OK n pre x It' W') (hseq : Seq3 P gf lb encs Ro It0 Done Part OK w0)
    (hw0 : G w0 w) (hIt0 : ∀ k, It0 k → k < w.heap.size) (hRo : ∀ k, Ro k → k < w.heap.size) (hps : ∀ x, (encs x).size = ps.size)
    (I : List α → (Nat → Prop) → World → Prop) (Ix : Code → List α → (Nat → Prop) → World → Prop) (hI : ∀ p, Stable (I p)) (hIx : ∀ c p, Stable (Ix c p)) (h0 : I [] It0 w)
    (a₁ : α → World → Act)
    (hassign : ∀ (l : Nat) (x : α) (W : World) (K : Act → World → Prop), K (a₁ x W) (mk x W) →
      assign.wpIn (Fence.wide.inRound l) 2 P (Exit.then K (fun _ _ _ => False)) { tmps := (ps.zip (encs x)).foldl (fun t (p, v) => t.setIfInBounds p v) a.tmps, defers := [] } W)
    (hbody : ∀ (l : Nat) (pre : List α) (x : α) (Fo : Nat → Prop) (W0 W : World), W0.heap.size ≤ W.heap.size → w.heap.size + 2 ≤ W0.heap.size → Fr (fun k => k = w.heap.size + 1) (mk x W0) W → (∀ k, Fo k → It0 k ∨ w.heap.size ≤ k) → (∀ k, Fo k → k < W.heap.size) → w.heap.size ≤ W.heap.size → I pre Fo W → OK (w.heap.size + 2) pre x Fo W →
      body.wpIn (Fence.wide.inRound l) 2 P (bodyOut Ro I Ix (pre ++ [x]) Fo W) (a₁ x W0) W)
    (hdone : ∀ (D : Nat) (xs : List α) (It Fo : Nat → Prop) (W W3 : World), w.heap.size ≤ D → D < W.heap.size → (∀ k, It k → Fo k) → Fo D → (∀ k, It k → It0 k ∨ w.heap.size < k) → (∀ k, Fo k → It0 k ∨ w.heap.size ≤ k) → Done xs It W3 → Fr (fun k => k = w.heap.size + 1) W3 W → I xs Fo W → W.heap[D]? = some (.deferred (some [])) →
      Q .normal { a with defers := { target := .collected D, args := #[] } :: a.defers } W)
    (hstop : ∀ (D : Nat) (c : Code) (pre : List α) (It Fo : Nat → Prop) (W W3 : World), w.heap.size ≤ D → D < W.heap.size → (∀ k, It k → Fo k) → Fo D → (∀ k, It k → It0 k ∨ w.heap.size < k) → (∀ k, Fo k → It0 k ∨ w.heap.size ≤ k) → Part pre It W3 → Fr (fun k => k = w.heap.size + 1) W3 W → Ix c pre Fo W → W.heap[D]? = some (.deferred (some [])) →
      c.wp P Q { a with defers := { target := .collected D, args := #[] } :: a.defers } W) :
    (Code.rangeFunc g ps assign body).wp P Q a w :=
  wpIn_wide.1 (range_law3 mk hmk hg eg hOK hseq hw0 hIt0 hRo hps I Ix hI hIx h0 a₁ hassign hbody hdone (fun D c pre It Fo W W3 h1 h2 h3 h4 h5 h6 h7 h8 h9 h10 => wpIn_wide.2 (hstop D c pre It Fo W W3 h1 h2 h3 h4 h5 h6 h7 h8 h9 h10)))
end Go.Proofs.Ythhmmjpgefinmaa
