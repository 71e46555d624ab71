/- A range over a function: the iterator and the loop's body are two parties; each names the blocks that are its own. -/
import Derived.Test.YtamhlflacnldfaaDoorBase
namespace Go.Proofs.YtamhlflacnldfaaDoor
set_option linter.unusedVariables false
open Go.RowKit

theorem putObj_fr (w : World) (r : Nat) (o : Obj) : Fr (fun k => k = r) w (w.putObj r o) :=
  ⟨rfl, rfl, rfl, by simp, fun _ _ hk => World.putObj_heap_other hk⟩
theorem G.putObj {a b : World} (h : G a b) {r : Nat} (hr : a.heap.size ≤ r) (o : Obj) : G a (b.putObj r o) :=
  ⟨(show Below a.heap.size a b from h).os, (show Below a.heap.size a b from h).tape, (show Below a.heap.size a b from h).output, by simpa using h.size, fun k hk => (World.putObj_heap_other (by omega)).trans (h.block hk)⟩

/-- what abides: the blocks in Fo may turn, new ones may be laid and be taken into Fo -/
def Stable (J : (Nat → Prop) → World → Prop) : Prop :=
  ∀ Fo Fo' W W', J Fo W → (∀ k, Fo k → Fo' k) → (∀ k, Fo' k → Fo k ∨ W.heap.size ≤ k) → Fr Fo W W' → J Fo' W'

/-- how a round is told to the iterator -/
def RoundPost {α : Type} (Ro : Nat → Prop) (J Jx : List α → (Nat → Prop) → World → Prop) (xs : List α) (It : Nat → Prop) (W : World) : Ending → World → Prop := fun e W' =>
  Fr (fun k => ¬ (It k ∨ Ro k)) W W' ∧ ((e = .returned (.bool true) ∧ J xs It W') ∨ (e = .returned (.bool false) ∧ Jx xs It W'))

/-- how the iterator ends -/
def SeqEnd {α : Type} (It0 : Nat → Prop) (W : World) (J Jx Done Part : List α → (Nat → Prop) → World → Prop) : Ending → World → Prop := fun e W' => (∃ v, e = .returned v) ∧ ∃ It, (∀ k, It0 k → It k) ∧ (∀ k, It k → It0 k ∨ W.heap.size ≤ k) ∧
      ((∃ xs, J xs It W' ∧ Done xs It W') ∨ (∃ pre, Jx pre It W' ∧ Part pre It W'))
/-- the iterator's contract: It0: its own blocks at the start; Ro: those that nobody writes -/
def Seq {α : Type} (P : Program) (g : Nat) (lb : Array Value) (encs : α → Array Value) (Ro It0 : Nat → Prop) (Done Part : List α → (Nat → Prop) → World → Prop) (OK : List α → α → Prop) (w : World) : Prop :=
  ∀ (l : Nat) (J Jx : List α → (Nat → Prop) → World → Prop) (W : World), G w W → (∀ p, Stable (J p)) → (∀ p, Stable (Jx p)) →
    (∀ pre x It W1, (∀ k, It k → It0 k ∨ W.heap.size ≤ k) → (∀ k, It k → k < W1.heap.size) → W.heap.size ≤ W1.heap.size → J pre It W1 → OK pre x → YieldAt Fence.wide 2 P l (encs x) W1 (RoundPost Ro J Jx (pre ++ [x]) It W1)) →
    J [] It0 W →
    Calls P g (#[.func (.yield l) #[] #[]] ++ lb) W (SeqEnd It0 W J Jx Done Part)

/-- how the body of a round may be left -/
def bodyOut {α : Type} (Ro : Nat → Prop) (I : List α → (Nat → Prop) → World → Prop) (Ix : Code → List α → (Nat → Prop) → World → Prop) (xs : List α) (Fo : Nat → Prop) (W : World) : Exit → Act → World → Prop
  | .normal, _, W' => Fr (fun k => ¬ (Fo k ∨ Ro k)) W W' ∧ I xs Fo W'
  | .ret, _, W' => Fr (fun k => ¬ (Fo k ∨ Ro k)) W W' ∧ Ix .ret xs Fo W'
  | .exit id, _, W' => Fr (fun k => ¬ (Fo k ∨ Ro k)) W W' ∧ Ix (.exit id) xs Fo W'
  | .goto t, _, W' => Fr (fun k => ¬ (Fo k ∨ Ro k)) W W' ∧ Ix (.goto t) xs Fo W'
  | .panic _, _, _ => False
  | .outgrown, _, _ => False

/-- THE LAW -/
theorem range_law {α : Type} {P : Program} {g : Operand} {ps : Array Tmp} {assign body : Code} {Q : Exit → Act → World → Prop} {a : Act} {w : World}
    {gf : Nat} {lb : Array Value} (hg : a.eval g = .func (.func gf) #[] lb) (eg : ∀ args w, (callFunc gf args).run P w = .ok (.enter gf args) w)
    {encs : α → Array Value} {Ro It0 : Nat → Prop} {Done Part : List α → (Nat → Prop) → World → Prop} {OK : List α → α → Prop} {w0 : World} (hseq : Seq P gf lb encs Ro It0 Done Part OK w0)
    (hw0 : G w0 w) (hIt0 : ∀ k, It0 k → k < w.heap.size) (hRo : ∀ k, Ro k → k < w.heap.size) (hps : ∀ x, (encs x).size = ps.size)
    (I : List α → (Nat → Prop) → World → Prop) (Ix : Code → List α → (Nat → Prop) → World → Prop) (hI : ∀ p, Stable (I p)) (hIx : ∀ c p, Stable (Ix c p)) (h0 : I [] It0 w)
    (a₁ : α → Act)
    (hassign : ∀ (l : Nat) (x : α) (W : World) (K : Act → World → Prop), K (a₁ x) W →
      assign.wpIn (Fence.wide.inRound l) 2 P (Exit.then K (fun _ _ _ => False)) { tmps := (ps.zip (encs x)).foldl (fun t (p, v) => t.setIfInBounds p v) a.tmps, defers := [] } W)
    (hbody : ∀ (l : Nat) (pre : List α) (x : α) (Fo : Nat → Prop) (W : World), (∀ k, Fo k → It0 k ∨ w.heap.size ≤ k) → (∀ k, Fo k → k < W.heap.size) → w.heap.size ≤ W.heap.size → I pre Fo W → OK pre x →
      body.wpIn (Fence.wide.inRound l) 2 P (bodyOut Ro I Ix (pre ++ [x]) Fo W) (a₁ x) W)
    (hdone : ∀ (D : Nat) (xs : List α) (It Fo : Nat → Prop) (W W3 : World), w.heap.size ≤ D → D < W.heap.size → (∀ k, It k → Fo k) → Fo D → (∀ k, It k → It0 k ∨ w.heap.size < k) → (∀ k, Fo k → It0 k ∨ w.heap.size ≤ k) → Done xs It W3 → Fr (fun k => k = w.heap.size + 1) W3 W → I xs Fo W → W.heap[D]? = some (.deferred (some [])) →
      Q .normal { a with defers := { target := .collected D, args := #[] } :: a.defers } W)
    (hstop : ∀ (D : Nat) (c : Code) (pre : List α) (It Fo : Nat → Prop) (W W3 : World), w.heap.size ≤ D → D < W.heap.size → (∀ k, It k → Fo k) → Fo D → (∀ k, It k → It0 k ∨ w.heap.size < k) → (∀ k, Fo k → It0 k ∨ w.heap.size ≤ k) → Part pre It W3 → Fr (fun k => k = w.heap.size + 1) W3 W → Ix c pre Fo W → W.heap[D]? = some (.deferred (some [])) →
      c.wpIn Fence.wide 3 P Q { a with defers := { target := .collected D, args := #[] } :: a.defers } W) :
    (Code.rangeFunc g ps assign body).wpIn Fence.wide 3 P Q a w := by
  refine wpIn_rangeFunc ?_
  intro fn hfn
  show ∃ _, _
  obtain ⟨rec, hrec⟩ : ∃ rec : LoopState → Option Code → Loop, rec = fun st pe => { state := st, pending := pe, fn, tmps := a.tmps, params := ps, assign, body, defers := w.heap.size } := ⟨_, rfl⟩
  obtain ⟨W1, hW1⟩ : ∃ W1, (w.alloc (.deferred (some []))).alloc (.loop (rec .ready none)) = W1 := ⟨_, rfl⟩
  have hL1 : W1.heap[w.heap.size + 1]? = some (.loop (rec .ready none)) := by
    rw [← hW1]; have := World.alloc_heap_new (w.alloc (.deferred (some []))) (.loop (rec .ready none)); rwa [World.size_alloc] at this
  have hK1 : W1.heap[w.heap.size]? = some (.deferred (some [])) := by
    rw [← hW1]; exact (Below.heap_alloc _ _ _ (by simp)).trans (World.alloc_heap_new w _)
  have hs1 : W1.heap.size = w.heap.size + 2 := by rw [← hW1]; simp
  have hG1 : G w W1 := by rw [← hW1]; exact ((G.refl w).alloc _).alloc _
  -- the caller's own blocks of book-keeping
  let fo : (Nat → Prop) → Nat → Prop := fun It k => It k ∨ k = w.heap.size ∨ k = w.heap.size + 1
  have hI1 : I [] (fo It0) W1 := hI [] It0 (fo It0) w W1 h0 (fun k hk => .inl hk) (fun k hk => hk.elim .inl (fun h => .inr (by omega))) (hG1.fr _)
  refine ⟨w.heap.size + 1, [{ target := .collected w.heap.size, args := #[] }], W1, { target := .fn (.func gf) lb, args := #[.func (.yield (w.heap.size + 1)) #[] #[]] }, W1, gf,
    #[.func (.yield (w.heap.size + 1)) #[] #[]] ++ lb, W1, ?_, ?_, ?_, ?_, fun h => by simp [Fence.wide] at h, ?_⟩
  · rw [← hW1, hrec]; exact run_enterLoop_outer _ _ _ _ _
  · simp only [resolve, hg]
    simp [go_sem]
  · intro f' _; trivial
  · simp [invoke, go_sem, eg]
  · -- J: the body's invariant, with the two blocks of book-keeping
    have hJs : ∀ (B : (Nat → Prop) → World → Prop) (st : LoopState) (pe : Option Code), Stable B → Stable (fun It W => B (fo It) W ∧ (∀ k, It k → It0 k ∨ w.heap.size + 2 ≤ k) ∧ w.heap.size + 2 ≤ W.heap.size ∧ W.heap[w.heap.size + 1]? = some (.loop (rec st pe)) ∧ W.heap[w.heap.size]? = some (.deferred (some []))) := by
      intro B st pe hB Fo Fo' W W' ⟨h1, h2, h3, h4, h5⟩ hsub hnew hfr
      have hn0 : ¬ Fo (w.heap.size + 1) := fun h => (h2 _ h).elim (fun h => absurd (hIt0 _ h) (by omega)) (fun h => by omega)
      have hn1 : ¬ Fo w.heap.size := fun h => (h2 _ h).elim (fun h => absurd (hIt0 _ h) (by omega)) (fun h => by omega)
      refine ⟨hB (fo Fo) (fo Fo') W W' h1 (fun k hk => hk.imp (hsub k) id) (fun k hk => hk.elim (fun hk => (hnew k hk).imp .inl id) (fun hk => .inl (.inr hk))) (hfr.mono (fun i hi => .inl hi)),
        fun k hk => (hnew k hk).elim (h2 k) (fun h => .inr (by omega)), Nat.le_trans h3 hfr.size, (hfr.block _ (by omega) hn0).trans h4, (hfr.block _ (by omega) hn1).trans h5⟩
    refine CallsIn.mono (callsIn_wide.2 (hseq (w.heap.size + 1)
      (fun pre It W => I pre (fo It) W ∧ (∀ k, It k → It0 k ∨ w.heap.size + 2 ≤ k) ∧ w.heap.size + 2 ≤ W.heap.size ∧ W.heap[w.heap.size + 1]? = some (.loop (rec .ready none)) ∧ W.heap[w.heap.size]? = some (.deferred (some [])))
      (fun pre It W => ∃ c, Ix c pre (fo It) W ∧ (∀ k, It k → It0 k ∨ w.heap.size + 2 ≤ k) ∧ w.heap.size + 2 ≤ W.heap.size ∧ W.heap[w.heap.size + 1]? = some (.loop (rec .done (some c))) ∧ W.heap[w.heap.size]? = some (.deferred (some [])))
      W1 (hw0.trans hG1) (fun p => hJs _ _ _ (hI p))
      (fun p Fo Fo' W W' h a b c => by obtain ⟨cd, h⟩ := h; exact ⟨cd, hJs _ .done (some cd) (hIx cd p) Fo Fo' W W' h a b c⟩)
      ?_ ⟨hI1, fun k hk => .inl hk, by omega, hL1, hK1⟩)) ?_
    · -- ONE ROUND
      rintro pre x It W hItx hlt hsz ⟨hi, h2, h3, hl, hk⟩ hok
      have hy := run_yield (P := P) (args := encs x) hl (by rw [hrec]; exact hps x)
      rw [hrec] at hy
      refine ⟨fn, _, assign, body, hy, roundIn_of_wpIn hfn (hassign _ x W _ ⟨_, run_beginRound hl (by rw [hrec]), ?_⟩)⟩
      have hfol : fo It (w.heap.size + 1) := .inr (.inr rfl)
      have hfoD : fo It w.heap.size := .inr (.inl rfl)
      obtain ⟨W2, hW2⟩ : ∃ W2, (W.putObj (w.heap.size + 1) (.loop { rec .ready none with state := .busy })) = W2 := ⟨_, rfl⟩
      have hl2 : W2.heap[w.heap.size + 1]? = some (.loop { rec .ready none with state := .busy }) := by rw [← hW2]; exact World.putObj_heap_same (by omega)
      have hk2 : W2.heap[w.heap.size]? = some (.deferred (some [])) := by rw [← hW2]; exact (World.putObj_heap_other (by omega)).trans hk
      have hf2 : Fr (fun k => k = w.heap.size + 1) W W2 := by rw [← hW2]; exact putObj_fr _ _ _
      have hs2 : W2.heap.size = W.heap.size := by rw [← hW2]; simp
      have hi2 : I pre (fo It) W2 := hI pre _ _ _ _ hi (fun _ h => h) (fun _ h => .inl h) (hf2.mono (fun i e => by subst e; exact hfol))
      show Code.wpIn _ _ _ _ _ _ (W.putObj (w.heap.size + 1) (.loop { rec .ready none with state := .busy }))
      rw [hW2]
      refine wpIn_mono (hbody _ pre x (fo It) W2 (fun k hk => hk.elim (fun hk => (h2 k hk).imp id (fun h => by omega)) (fun hk => .inr (by omega)))
        (fun k hk => by rw [hs2]; exact hk.elim (hlt k) (fun h => by omega)) (by omega) hi2 hok) ?_
      have fin : ∀ (jump : Option Code) (W3 : World), Fr (fun k => ¬ (fo It k ∨ Ro k)) W2 W3 →
          (Instr.endRound (w.heap.size + 1) jump).run P W3 = .ok (.bool jump.isNone) (W3.putObj (w.heap.size + 1) (.loop (rec (if jump.isNone then .ready else .done) jump))) ∧
          Fr (fun k => ¬ (It k ∨ Ro k)) W (W3.putObj (w.heap.size + 1) (.loop (rec (if jump.isNone then .ready else .done) jump))) ∧
          (∀ B : (Nat → Prop) → World → Prop, Stable B → B (fo It) W3 → B (fo It) (W3.putObj (w.heap.size + 1) (.loop (rec (if jump.isNone then .ready else .done) jump)))) ∧
          w.heap.size + 2 ≤ (W3.putObj (w.heap.size + 1) (.loop (rec (if jump.isNone then .ready else .done) jump))).heap.size ∧
          (W3.putObj (w.heap.size + 1) (.loop (rec (if jump.isNone then .ready else .done) jump))).heap[w.heap.size + 1]? = some (.loop (rec (if jump.isNone then .ready else .done) jump)) ∧
          (W3.putObj (w.heap.size + 1) (.loop (rec (if jump.isNone then .ready else .done) jump))).heap[w.heap.size]? = some (.deferred (some [])) := fun jump W3 hk3 => by
        have hl3 := (hk3.block _ (by omega) (fun h => h (.inl hfol))).trans hl2
        have hd3 := (hk3.block _ (by omega) (fun h => h (.inl hfoD))).trans hk2
        have hz := hk3.size
        have := run_endRound (P := P) jump hl3
        rw [hrec] at this ⊢
        refine ⟨this, ?_, fun B hB hb => hB _ _ _ _ hb (fun _ h => h) (fun _ h => .inl h) ((putObj_fr _ _ _).mono (fun i e => by subst e; exact hfol)), by simp; omega, World.putObj_heap_same (by omega), (World.putObj_heap_other (by omega)).trans hd3⟩
        have hnl : ∀ i, i = w.heap.size + 1 → ¬ (It i ∨ Ro i) := by
          rintro i rfl (h | h)
          · exact (h2 _ h).elim (fun h => absurd (hIt0 _ h) (by omega)) (fun h => by omega)
          · exact absurd (hRo _ h) (by omega)
        refine (hf2.mono hnl).trans (T := fun k => ¬ (It k ∨ Ro k)) ((hk3.mono (fun i hi (hn : It i ∨ Ro i) => hi (hn.imp .inl id))).trans (T := fun k => k = w.heap.size + 1) (putObj_fr _ _ _) (fun i _ e => hnl i e)) (fun _ _ h => h)
      rintro e a3 W3 hp
      cases e with
      | normal =>
        obtain ⟨hk3, hi3⟩ := hp
        obtain ⟨hr, hf, hB, hz, hl4, hk4⟩ := fin none W3 hk3
        exact ⟨_, _, hr, hf, .inl ⟨rfl, hB _ (hI _) hi3, h2, hz, hl4, hk4⟩⟩
      | ret =>
        obtain ⟨hk3, hi3⟩ := hp
        obtain ⟨hr, hf, hB, hz, hl4, hk4⟩ := fin (some .ret) W3 hk3
        exact ⟨_, _, hr, hf, .inr ⟨rfl, .ret, hB _ (hIx _ _) hi3, h2, hz, hl4, hk4⟩⟩
      | exit id =>
        obtain ⟨hk3, hi3⟩ := hp
        obtain ⟨hr, hf, hB, hz, hl4, hk4⟩ := fin (some (.exit id)) W3 hk3
        exact ⟨_, _, hr, hf, .inr ⟨rfl, .exit id, hB _ (hIx _ _) hi3, h2, hz, hl4, hk4⟩⟩
      | goto t =>
        obtain ⟨hk3, hi3⟩ := hp
        obtain ⟨hr, hf, hB, hz, hl4, hk4⟩ := fin (some (.goto t)) W3 hk3
        exact ⟨_, _, hr, hf, .inr ⟨rfl, .goto t, hB _ (hIx _ _) hi3, h2, hz, hl4, hk4⟩⟩
      | panic ch => exact hp.elim
      | outgrown => exact hp.elim
    · -- BEHIND THE ITERATOR
      have hfoi : ∀ (It : Nat → Prop), (∀ k, It k → It0 k ∨ w.heap.size + 2 ≤ k) → ∀ k, fo It k → It0 k ∨ w.heap.size ≤ k := fun It h k hk =>
        hk.elim (fun hk => (h k hk).imp id (fun h => by omega)) (fun hk => .inr (by omega))
      rintro e W2 ⟨⟨v, rfl⟩, It, hsub, hnew, (⟨xs, ⟨hi, h2, h3, hl, hk⟩, hD⟩ | ⟨pre, ⟨c, hi, h2, h3, hl, hk⟩, hP⟩)⟩
      · refine ⟨none, _, by have := run_endLoop (P := P) hl (by rw [hrec]; simp); rw [hrec] at this; exact this, ?_⟩
        exact hdone w.heap.size xs It (fo It) _ W2 (Nat.le_refl _) (by simp; omega) (fun k h => .inl h) (.inr (.inl rfl)) (fun k h => (h2 k h).imp id (fun h => by omega)) (hfoi It h2) hD (putObj_fr _ _ _)
          (hI _ _ _ _ _ hi (fun _ h => h) (fun _ h => .inl h) ((putObj_fr _ _ _).mono (fun i e => by subst e; exact .inr (.inr rfl)))) ((World.putObj_heap_other (by omega)).trans hk)
      · refine ⟨some c, _, by have := run_endLoop (P := P) hl (by rw [hrec]; simp); rw [hrec] at this; exact this, ?_⟩
        exact hstop w.heap.size c pre It (fo It) _ W2 (Nat.le_refl _) (by simp; omega) (fun k h => .inl h) (.inr (.inl rfl)) (fun k h => (h2 k h).imp id (fun h => by omega)) (hfoi It h2) hP (putObj_fr _ _ _)
          (hIx _ _ _ _ _ _ hi (fun _ h => h) (fun _ h => .inl h) ((putObj_fr _ _ _).mono (fun i e => by subst e; exact .inr (.inr rfl)))) ((World.putObj_heap_other (by omega)).trans hk)

theorem Stable.g {J : (Nat → Prop) → World → Prop} (h : Stable J) {Fo : Nat → Prop} {W W' : World} (hj : J Fo W) (hg : G W W') : J Fo W' :=
  h Fo Fo W W' hj (fun _ x => x) (fun _ x => .inl x) (hg.fr _)
theorem G.drewN {a b : World} (h : G a b) (n : Nat) : G a (b.drewN n) := h.trans ⟨rfl, rfl, rfl, Nat.le_refl _, fun _ _ => rfl⟩
/-- a contract at a yield -/
theorem RoundPost.elim {α : Type} {Ro : Nat → Prop} {J Jx : List α → (Nat → Prop) → World → Prop} {xs : List α} {It : Nat → Prop} {W : World} {e : Ending} {W' : World} (h : RoundPost Ro J Jx xs It W e W') :
    (e = .returned (.bool true) ∧ Fr (fun k => ¬ (It k ∨ Ro k)) W W' ∧ J xs It W') ∨ (e = .returned (.bool false) ∧ Fr (fun k => ¬ (It k ∨ Ro k)) W W' ∧ Jx xs It W') :=
  h.2.elim (fun ⟨a, b⟩ => .inl ⟨a, h.1, b⟩) (fun ⟨a, b⟩ => .inr ⟨a, h.1, b⟩)
/-- THE LAW, in the plain walk -/
theorem range_wp {α : Type} {P : Program} {g : Operand} {ps : Array Tmp} {assign body : Code} {Q : Exit → Act → World → Prop} {a : Act} {w : World}
    {gf : Nat} {lb : Array Value} (hg : a.eval g = .func (.func gf) #[] lb) (eg : ∀ args w, (callFunc gf args).run P w = .ok (.enter gf args) w)
    {encs : α → Array Value} {Ro It0 : Nat → Prop} {Done Part : List α → (Nat → Prop) → World → Prop} {OK : List α → α → Prop} {w0 : World} (hseq : Seq P gf lb encs Ro It0 Done Part OK w0)
    (hw0 : G w0 w) (hIt0 : ∀ k, It0 k → k < w.heap.size) (hRo : ∀ k, Ro k → k < w.heap.size) (hps : ∀ x, (encs x).size = ps.size)
    (I : List α → (Nat → Prop) → World → Prop) (Ix : Code → List α → (Nat → Prop) → World → Prop) (hI : ∀ p, Stable (I p)) (hIx : ∀ c p, Stable (Ix c p)) (h0 : I [] It0 w)
    (a₁ : α → Act)
    (hassign : ∀ (l : Nat) (x : α) (W : World) (K : Act → World → Prop), K (a₁ x) W →
      assign.wpIn (Fence.wide.inRound l) 2 P (Exit.then K (fun _ _ _ => False)) { tmps := (ps.zip (encs x)).foldl (fun t (p, v) => t.setIfInBounds p v) a.tmps, defers := [] } W)
    (hbody : ∀ (l : Nat) (pre : List α) (x : α) (Fo : Nat → Prop) (W : World), (∀ k, Fo k → It0 k ∨ w.heap.size ≤ k) → (∀ k, Fo k → k < W.heap.size) → w.heap.size ≤ W.heap.size → I pre Fo W → OK pre x →
      body.wpIn (Fence.wide.inRound l) 2 P (bodyOut Ro I Ix (pre ++ [x]) Fo W) (a₁ x) W)
    (hdone : ∀ (D : Nat) (xs : List α) (It Fo : Nat → Prop) (W W3 : World), w.heap.size ≤ D → D < W.heap.size → (∀ k, It k → Fo k) → Fo D → (∀ k, It k → It0 k ∨ w.heap.size < k) → (∀ k, Fo k → It0 k ∨ w.heap.size ≤ k) → Done xs It W3 → Fr (fun k => k = w.heap.size + 1) W3 W → I xs Fo W → W.heap[D]? = some (.deferred (some [])) →
      Q .normal { a with defers := { target := .collected D, args := #[] } :: a.defers } W)
    (hstop : ∀ (D : Nat) (c : Code) (pre : List α) (It Fo : Nat → Prop) (W W3 : World), w.heap.size ≤ D → D < W.heap.size → (∀ k, It k → Fo k) → Fo D → (∀ k, It k → It0 k ∨ w.heap.size < k) → (∀ k, Fo k → It0 k ∨ w.heap.size ≤ k) → Part pre It W3 → Fr (fun k => k = w.heap.size + 1) W3 W → Ix c pre Fo W → W.heap[D]? = some (.deferred (some [])) →
      c.wp P Q { a with defers := { target := .collected D, args := #[] } :: a.defers } W) :
    (Code.rangeFunc g ps assign body).wp P Q a w :=
  wpIn_wide.1 (range_law hg eg hseq hw0 hIt0 hRo hps I Ix hI hIx h0 a₁ hassign hbody hdone (fun D c pre It Fo W W3 h1 h2 h3 h4 h5 h6 h7 h8 h9 h10 => wpIn_wide.2 (hstop D c pre It Fo W W3 h1 h2 h3 h4 h5 h6 h7 h8 h9 h10)))
/-- a function that holds a range over a function, in the plain walk -/
theorem calls_of_marks {P : Program} {f : FuncId} {fn : Func} {c : Code} {args : Array Value} {w : World} {R : Ending → World → Prop}
    (hf : P.funcs[f]? = some fn) (hb : fn.body = some c)
    (h : c.wp P (bodyPostM Fence.wide 3 P fn R) { tmps := args ++ Array.replicate (fn.ntmps - args.size) undef, defers := [] } w) : Calls P f args w R :=
  callsIn_wide.1 (callsIn_of_wp_marks hf hb trivial (wpIn_wide.2 h) rfl)
theorem Stable.pure (p : Prop) : Stable (fun _ _ => p) := fun _ _ _ _ h _ _ _ => h
theorem Stable.and {J K : (Nat → Prop) → World → Prop} (h : Stable J) (k : Stable K) : Stable (fun Fo W => J Fo W ∧ K Fo W) :=
  fun Fo Fo' W W' x a b c => ⟨h Fo Fo' W W' x.1 a b c, k Fo Fo' W W' x.2 a b c⟩
theorem Stable.ex {β : Type} {J : β → (Nat → Prop) → World → Prop} (h : ∀ x, Stable (J x)) : Stable (fun Fo W => ∃ x, J x Fo W) :=
  fun Fo Fo' W W' ⟨x, hx⟩ a b c => ⟨x, h x Fo Fo' W W' hx a b c⟩
theorem boxed_putObj {W : World} {B D : Nat} {t : TypeId} {v : Value} {o : Obj} (h : Boxed W B t v) (hne : B ≠ D) : Boxed (W.putObj D o) B t v := (World.putObj_heap_other hne).trans h
theorem boxed_other {W : World} {B B' : Nat} {t : TypeId} {v v' : Value} (h : Boxed W B t v) (hne : B ≠ B') : Boxed (W.setCell ⟨B', 0, none⟩ v') B t v := (Below.heap_setCell W _ _ _ hne).trans h
/-- a box of the body's own -/
def FBox (B : Nat) (t : TypeId) (v : Value) (Fo : Nat → Prop) (W : World) : Prop := ¬ Fo B ∧ Boxed W B t v
theorem Stable.box (B : Nat) (t : TypeId) (v : Value) : Stable (FBox B t v) := fun Fo Fo' W W' h a b c =>
  ⟨fun h' => (b B h').elim h.1 (fun h' => absurd h.2.lt (by omega)), c.boxed h.2 h.1⟩
theorem FBox.set {B : Nat} {t : TypeId} {v : Value} {Fo : Nat → Prop} {W : World} (v' : Value) (h : FBox B t v Fo W) : FBox B t v' Fo (W.setCell ⟨B, 0, none⟩ v') := ⟨h.1, h.2.set v'⟩
theorem FBox.other {B B' : Nat} {t : TypeId} {v : Value} {Fo : Nat → Prop} {W : World} (v' : Value) (h : FBox B t v Fo W) (hne : B ≠ B') : FBox B t v Fo (W.setCell ⟨B', 0, none⟩ v') :=
  ⟨h.1, (Below.heap_setCell W _ _ _ hne).trans h.2⟩
theorem FBox.alloc {B : Nat} {t : TypeId} {v : Value} {Fo : Nat → Prop} {W : World} (h : FBox B t v Fo W) (o : Obj) : FBox B t v Fo (W.alloc o) := ⟨h.1, h.2.alloc o⟩
theorem FBox.fr {S : Nat → Prop} {B : Nat} {t : TypeId} {v : Value} {Fo : Nat → Prop} {W W' : World} (h : FBox B t v Fo W) (hf : Fr S W W') (hs : ¬ S B) : FBox B t v Fo W' := ⟨h.1, hf.boxed h.2 hs⟩
/-- a row of the body's own -/
def FRow (base : Nat) (e : TypeId) (size : Nat) (v : Value) (n : Nat) (xs : List Value) (Fo : Nat → Prop) (W : World) : Prop := (∀ g, v.ownBlock = some g → ¬ Fo g) ∧ W.ownsRow base e size v n xs
theorem Stable.row (base : Nat) (e : TypeId) (size : Nat) (v : Value) (n : Nat) (xs : List Value) : Stable (FRow base e size v n xs) := fun Fo Fo' W W' h a b c =>
  ⟨fun g hg h' => (b g h').elim (h.1 g hg) (fun h' => absurd (h.2.lt g hg).2 (by omega)), c.ownsRow h.2 h.1⟩
/-- what was there when the call began lies as it lay -/
def FG (w0 : World) (Fo : Nat → Prop) (W : World) : Prop := (∀ k, Fo k → w0.heap.size ≤ k) ∧ G w0 W
theorem Stable.fg (w0 : World) : Stable (FG w0) := fun Fo Fo' W W' h a b c =>
  ⟨fun k hk => (b k hk).elim (h.1 k) (fun hk => Nat.le_trans h.2.size hk), ⟨c.os.trans h.2.os, c.tape.trans h.2.tape, c.output.trans h.2.output, Nat.le_trans h.2.size c.size,
    fun k hk => (c.block k (Nat.lt_of_lt_of_le hk h.2.size) (fun hf => by have := h.1 k hf; omega)).trans (h.2.block hk)⟩⟩
theorem FG.setCell {w0 : World} {Fo : Nat → Prop} {W : World} (h : FG w0 Fo W) {p : Addr} (hp : w0.heap.size ≤ p.block) (v : Value) : FG w0 Fo (W.setCell p v) := ⟨h.1, h.2.setCell hp v⟩
theorem FG.alloc {w0 : World} {Fo : Nat → Prop} {W : World} (h : FG w0 Fo W) (o : Obj) : FG w0 Fo (W.alloc o) := ⟨h.1, h.2.alloc o⟩
theorem FG.g {w0 : World} {Fo : Nat → Prop} {W W' : World} (h : FG w0 Fo W) (k : G W W') : FG w0 Fo W' := ⟨h.1, h.2.trans k⟩
/-- a block of whatever kind that nobody turns -/
def FBlk (B : Nat) (o : Obj) (Fo : Nat → Prop) (W : World) : Prop := ¬ Fo B ∧ W.heap[B]? = some o
theorem Stable.blk (B : Nat) (o : Obj) : Stable (FBlk B o) := fun Fo Fo' W W' h a b c => by
  have hlt := (Array.getElem?_eq_some_iff.1 h.2).1
  exact ⟨fun h' => (b B h').elim h.1 (fun h' => absurd hlt (by omega)), (c.block B hlt h.1).trans h.2⟩
/-- at the return: the marks are taken up -/
theorem leave_nil {P : Program} {fn : Func} {R : Ending → World → Prop} {tmps : Array Value} {W : World} {v : Value} (hr : (results fn tmps).run P W = .ok v W) (hR : R (.returned v) W) :
    LeavesInM Fence.wide 3 P fn tmps R [] .returning W := ⟨v, hr, hR⟩
theorem leave_mark {P : Program} {fn : Func} {R : Ending → World → Prop} {tmps : Array Value} {W : World} {D : Nat} {ds : List Deferred} (hD : W.heap[D]? = some (.deferred (some [])))
    (h : LeavesInM Fence.wide 3 P fn tmps R ds .returning (W.putObj D (.deferred none))) : LeavesInM Fence.wide 3 P fn tmps R ({ target := .collected D, args := #[] } :: ds) .returning W :=
  ⟨by simp, .inl ⟨_, _, rfl, run_takeDeferred hD, h⟩⟩
end Go.Proofs.YtamhlflacnldfaaDoor
