/- laid together: Base Seq Own Rd -/
import Derived.Test.YthhmmjpgefinmaaProg
import Derived.WalkKit
import Derived.ProofKit
import Derived.OpenShut
import Derived.Handy
import Derived.Lib.Hide
import Derived.WalkSpells
import Derived.WalkLawsBesides
import Derived.RangeFuncNested
import Derived.RangeFuncBound
import Derived.RangeFuncCalls
import Derived.RangeFuncLeaves
import Derived.OwnWalkIn
import Derived.TacticsInMore
import Derived.LoopNIn
import Derived.LoopIn
import Derived.Shelf.Abstract
import Derived.Maps.AppendAt
/- What all seats share: frames between worlds. -/
namespace Go.Proofs.Ythhmmjpgefinmaa
set_option linter.unusedVariables false
open Go.RowKit

/-- of what was there nothing has turned, but for the blocks in S -/
structure Fr (S : Nat → Prop) (w w' : World) : Prop where
  os : w'.os = w.os
  tape : w'.tape = w.tape
  output : w'.output = w.output
  size : w.heap.size ≤ w'.heap.size
  block : ∀ k, k < w.heap.size → ¬ S k → w'.heap[k]? = w.heap[k]?
/-- of what was there nothing has turned -/
def G (w w' : World) : Prop := Below w.heap.size w w'
theorem G.refl (w : World) : G w w := Below.refl _ _
theorem G.size {a b : World} (h : G a b) : a.heap.size ≤ b.heap.size := Below.size h
theorem G.trans {a b c : World} (h : G a b) (k : G b c) : G a c := Below.trans h (Below.mono k h.size)
theorem G.drew {a b : World} (h : G a b) : G a b.drew := Below.drew h
theorem G.alloc {a b : World} (h : G a b) (o : Obj) : G a (b.alloc o) := Below.alloc h h.size o
theorem G.setCell {a b : World} (h : G a b) {p : Addr} (hp : a.heap.size ≤ p.block) (v : Value) : G a (b.setCell p v) := Below.setCell h hp v
theorem G.grown {a b c : World} {row : Option Nat} (h : G a b) (hg : b.grownBy c row) (hr : ∀ k, row = some k → a.heap.size ≤ k) : G a c := Below.grown h hg h.size hr
theorem G.block {a b : World} (h : G a b) {k : Nat} (hk : k < a.heap.size) : b.heap[k]? = a.heap[k]? := Below.block h k hk
theorem G.cell {a b : World} (h : G a b) {p : Addr} {v : Value} (hc : a.cell? p = some v) : b.cell? p = some v :=
  (Below.cell h (World.block_lt_of_cell? a p hc)).trans hc
theorem G.frozen {a b : World} (h : G a b) {p : Addr} (hp : p.block < a.heap.size) : b.frozen? p = a.frozen? p := Below.frozen h hp
theorem G.fr {a b : World} (h : G a b) (S : Nat → Prop) : Fr S a b := ⟨h.os, h.tape, h.output, h.size, fun _ hk _ => h.block hk⟩
theorem G.frame {a b : World} (h : G a b) (may : MemPlace → Prop) : a.keptBut b may := Below.frame h may
theorem Fr.refl (S : Nat → Prop) (w : World) : Fr S w w := ⟨rfl, rfl, rfl, Nat.le_refl _, fun _ _ _ => rfl⟩
theorem Fr.trans {S T : Nat → Prop} {a b c : World} (h : Fr S a b) (k : Fr T b c) (hST : ∀ i, i < a.heap.size → T i → S i) : Fr S a c :=
  ⟨k.os.trans h.os, k.tape.trans h.tape, k.output.trans h.output, Nat.le_trans h.size k.size, fun i hi hs =>
    (k.block i (Nat.lt_of_lt_of_le hi h.size) (fun ht => hs (hST i hi ht))).trans (h.block i hi hs)⟩
theorem Fr.mono {S T : Nat → Prop} {a b : World} (h : Fr S a b) (hST : ∀ i, S i → T i) : Fr T a b :=
  ⟨h.os, h.tape, h.output, h.size, fun i hi hs => h.block i hi (fun x => hs (hST i x))⟩
theorem Fr.cell {S : Nat → Prop} {a b : World} (h : Fr S a b) {p : Addr} {v : Value} (hs : ¬ S p.block) (hc : a.cell? p = some v) : b.cell? p = some v :=
  (World.cell?_of_block (h.block p.block (World.block_lt_of_cell? a p hc) hs)).trans hc
theorem Fr.g {S : Nat → Prop} {a b : World} (h : Fr S a b) (hS : ∀ i, S i → a.heap.size ≤ i) : G a b :=
  ⟨h.os, h.tape, h.output, h.size, fun k hk => h.block k hk (fun s => by have := hS k s; omega)⟩
theorem Fr.alloc {S : Nat → Prop} {a b : World} (h : Fr S a b) (o : Obj) : Fr S a (b.alloc o) :=
  h.trans ((G.alloc (G.refl b) o).fr S) (fun _ _ x => x)
theorem Fr.drew {S : Nat → Prop} {a b : World} (h : Fr S a b) : Fr S a b.drew := h.trans ((G.drew (G.refl b)).fr S) (fun _ _ x => x)
theorem Fr.setCell {S : Nat → Prop} {a b : World} (h : Fr S a b) {p : Addr} (hp : S p.block ∨ a.heap.size ≤ p.block) (v : Value) : Fr S a (b.setCell p v) := by
  refine h.trans (T := fun i => i = p.block) ⟨rfl, rfl, rfl, by simp [World.setCell], fun k _ hk => Below.heap_setCell _ _ _ _ hk⟩ ?_
  rintro i hi rfl; rcases hp with hp | hp
  · exact hp
  · omega
theorem grownBy_fr {b c : World} {row : Option Nat} (hg : b.grownBy c row) : Fr (fun k => row = some k) b c :=
  ⟨hg.os, hg.tape, hg.output, hg.size, fun k hk hn => hg.block k hk (fun e => hn e.symm)⟩
theorem Fr.boxed {S : Nat → Prop} {a b : World} (h : Fr S a b) {B : Nat} {t : TypeId} {v : Value} (hb : Boxed a B t v) (hs : ¬ S B) : Boxed b B t v := (h.block B hb.lt hs).trans hb
theorem G.boxed {a b : World} (h : G a b) {B : Nat} {t : TypeId} {v : Value} (hb : Boxed a B t v) : Boxed b B t v := (h.block hb.lt).trans hb
theorem Fr.ownsRow {S : Nat → Prop} {a b : World} (h : Fr S a b) {base : Nat} {e : TypeId} {size n : Nat} {v : Value} {xs : List Value} (hr : a.ownsRow base e size v n xs) (hs : ∀ g, v.ownBlock = some g → ¬ S g) :
    b.ownsRow base e size v n xs := by
  refine ⟨hr.1, ?_⟩
  rcases hr.2 with hn | ⟨g, cap, cur, rfl, hb, hgg, rest⟩
  · exact .inl hn
  · exact .inr ⟨g, cap, cur, rfl, hb, (h.block g (Array.getElem?_eq_some_iff.1 hgg).1 (hs g rfl)).trans hgg, rest⟩
theorem G.ownsRow {a b : World} (h : G a b) {base : Nat} {e : TypeId} {size n : Nat} {v : Value} {xs : List Value} (hr : a.ownsRow base e size v n xs) : b.ownsRow base e size v n xs :=
  (h.fr (fun _ => False)).ownsRow hr (fun _ _ => id)
theorem boxed_of_block {W : World} {B : Nat} {t : TypeId} {v : Value} (h : W.heap[B]? = some (.cells #[v] t (0, 0))) : Boxed W B t v := h
theorem alloc_new (w : World) (o : Obj) : (w.alloc o).heap[w.heap.size]? = some o := World.alloc_heap_new w o
theorem alloc_old {w : World} {k : Nat} (o : Obj) (h : k < w.heap.size) : (w.alloc o).heap[k]? = w.heap[k]? := Below.heap_alloc w o k h
end Go.Proofs.Ythhmmjpgefinmaa

/- A range over a function: the iterator and the loop's body are two parties; each names the blocks that are its own. -/
namespace Go.Proofs.Ythhmmjpgefinmaa
set_option linter.unusedVariables false
open Go.RowKit

theorem putObj_fr (w : World) (r : Nat) (o : Obj) : Fr (fun k => k = r) w (w.putObj r o) :=
  ⟨rfl, rfl, rfl, by simp, fun _ _ hk => World.putObj_heap_other hk⟩
theorem G.putObj {a b : World} (h : G a b) {r : Nat} (hr : a.heap.size ≤ r) (o : Obj) : G a (b.putObj r o) :=
  ⟨(show Below a.heap.size a b from h).os, (show Below a.heap.size a b from h).tape, (show Below a.heap.size a b from h).output, by simpa using h.size, fun k hk => (World.putObj_heap_other (by omega)).trans (h.block hk)⟩

/-- what abides: the blocks in Fo may turn, new ones may be laid and be taken into Fo -/
def Stable (J : (Nat → Prop) → World → Prop) : Prop :=
  ∀ Fo Fo' W W', J Fo W → (∀ k, Fo k → Fo' k) → (∀ k, Fo' k → Fo k ∨ W.heap.size ≤ k) → Fr Fo W W' → J Fo' W'

/-- how a round is told to the iterator -/
def RoundPost {α : Type} (Ro : Nat → Prop) (J Jx : List α → (Nat → Prop) → World → Prop) (xs : List α) (It : Nat → Prop) (W : World) : Ending → World → Prop := fun e W' =>
  Fr (fun k => ¬ (It k ∨ Ro k)) W W' ∧ ((e = .returned (.bool true) ∧ J xs It W') ∨ (e = .returned (.bool false) ∧ Jx xs It W'))

/-- how the iterator ends -/
def SeqEnd {α : Type} (It0 : Nat → Prop) (W : World) (J Jx Done Part : List α → (Nat → Prop) → World → Prop) : Ending → World → Prop := fun e W' => (∃ v, e = .returned v) ∧ ∃ It, (∀ k, It0 k → It k) ∧ (∀ k, It k → It0 k ∨ W.heap.size ≤ k) ∧
      ((∃ xs, J xs It W' ∧ Done xs It W') ∨ (∃ pre, Jx pre It W' ∧ Part pre It W'))
/-- the iterator's contract: It0: its own blocks at the start; Ro: those that nobody writes -/
def Seq {α : Type} (P : Program) (g : Nat) (lb : Array Value) (encs : α → Array Value) (Ro It0 : Nat → Prop) (Done Part : List α → (Nat → Prop) → World → Prop) (OK : List α → α → Prop) (w : World) : Prop :=
  ∀ (l : Nat) (J Jx : List α → (Nat → Prop) → World → Prop) (W : World), G w W → (∀ p, Stable (J p)) → (∀ p, Stable (Jx p)) →
    (∀ pre x It W1, (∀ k, It k → It0 k ∨ W.heap.size ≤ k) → (∀ k, It k → k < W1.heap.size) → W.heap.size ≤ W1.heap.size → J pre It W1 → OK pre x → YieldAt Fence.wide 2 P l (encs x) W1 (RoundPost Ro J Jx (pre ++ [x]) It W1)) →
    J [] It0 W →
    Calls P g (#[.func (.yield l) #[] #[]] ++ lb) W (SeqEnd It0 W J Jx Done Part)

/-- how the body of a round may be left -/
def bodyOut {α : Type} (Ro : Nat → Prop) (I : List α → (Nat → Prop) → World → Prop) (Ix : Code → List α → (Nat → Prop) → World → Prop) (xs : List α) (Fo : Nat → Prop) (W : World) : Exit → Act → World → Prop
  | .normal, _, W' => Fr (fun k => ¬ (Fo k ∨ Ro k)) W W' ∧ I xs Fo W'
  | .ret, _, W' => Fr (fun k => ¬ (Fo k ∨ Ro k)) W W' ∧ Ix .ret xs Fo W'
  | .exit id, _, W' => Fr (fun k => ¬ (Fo k ∨ Ro k)) W W' ∧ Ix (.exit id) xs Fo W'
  | .goto t, _, W' => Fr (fun k => ¬ (Fo k ∨ Ro k)) W W' ∧ Ix (.goto t) xs Fo W'
  | .panic _, _, _ => False
  | .outgrown, _, _ => False

/-- THE LAW -/
theorem range_law {α : Type} {P : Program} {g : Operand} {ps : Array Tmp} {assign body : Code} {Q : Exit → Act → World → Prop} {a : Act} {w : World}
    {gf : Nat} {lb : Array Value} (hg : a.eval g = .func (.func gf) #[] lb) (eg : ∀ args w, (callFunc gf args).run P w = .ok (.enter gf args) w)
    {encs : α → Array Value} {Ro It0 : Nat → Prop} {Done Part : List α → (Nat → Prop) → World → Prop} {OK : List α → α → Prop} {w0 : World} (hseq : Seq P gf lb encs Ro It0 Done Part OK w0)
    (hw0 : G w0 w) (hIt0 : ∀ k, It0 k → k < w.heap.size) (hRo : ∀ k, Ro k → k < w.heap.size) (hps : ∀ x, (encs x).size = ps.size)
    (I : List α → (Nat → Prop) → World → Prop) (Ix : Code → List α → (Nat → Prop) → World → Prop) (hI : ∀ p, Stable (I p)) (hIx : ∀ c p, Stable (Ix c p)) (h0 : I [] It0 w)
    (a₁ : α → Act)
    (hassign : ∀ (l : Nat) (x : α) (W : World) (K : Act → World → Prop), K (a₁ x) W →
      assign.wpIn (Fence.wide.inRound l) 2 P (Exit.then K (fun _ _ _ => False)) { tmps := (ps.zip (encs x)).foldl (fun t (p, v) => t.setIfInBounds p v) a.tmps, defers := [] } W)
    (hbody : ∀ (l : Nat) (pre : List α) (x : α) (Fo : Nat → Prop) (W : World), (∀ k, Fo k → It0 k ∨ w.heap.size ≤ k) → (∀ k, Fo k → k < W.heap.size) → w.heap.size ≤ W.heap.size → I pre Fo W → OK pre x →
      body.wpIn (Fence.wide.inRound l) 2 P (bodyOut Ro I Ix (pre ++ [x]) Fo W) (a₁ x) W)
    (hdone : ∀ (D : Nat) (xs : List α) (It Fo : Nat → Prop) (W W3 : World), w.heap.size ≤ D → D < W.heap.size → (∀ k, It k → Fo k) → Fo D → (∀ k, It k → It0 k ∨ w.heap.size < k) → (∀ k, Fo k → It0 k ∨ w.heap.size ≤ k) → Done xs It W3 → Fr (fun k => k = w.heap.size + 1) W3 W → I xs Fo W → W.heap[D]? = some (.deferred (some [])) →
      Q .normal { a with defers := { target := .collected D, args := #[] } :: a.defers } W)
    (hstop : ∀ (D : Nat) (c : Code) (pre : List α) (It Fo : Nat → Prop) (W W3 : World), w.heap.size ≤ D → D < W.heap.size → (∀ k, It k → Fo k) → Fo D → (∀ k, It k → It0 k ∨ w.heap.size < k) → (∀ k, Fo k → It0 k ∨ w.heap.size ≤ k) → Part pre It W3 → Fr (fun k => k = w.heap.size + 1) W3 W → Ix c pre Fo W → W.heap[D]? = some (.deferred (some [])) →
      c.wpIn Fence.wide 3 P Q { a with defers := { target := .collected D, args := #[] } :: a.defers } W) :
    (Code.rangeFunc g ps assign body).wpIn Fence.wide 3 P Q a w := by
  refine wpIn_rangeFunc ?_
  intro fn hfn
  show ∃ _, _
  obtain ⟨rec, hrec⟩ : ∃ rec : LoopState → Option Code → Loop, rec = fun st pe => { state := st, pending := pe, fn, tmps := a.tmps, params := ps, assign, body, defers := w.heap.size } := ⟨_, rfl⟩
  obtain ⟨W1, hW1⟩ : ∃ W1, (w.alloc (.deferred (some []))).alloc (.loop (rec .ready none)) = W1 := ⟨_, rfl⟩
  have hL1 : W1.heap[w.heap.size + 1]? = some (.loop (rec .ready none)) := by
    rw [← hW1]; have := World.alloc_heap_new (w.alloc (.deferred (some []))) (.loop (rec .ready none)); rwa [World.size_alloc] at this
  have hK1 : W1.heap[w.heap.size]? = some (.deferred (some [])) := by
    rw [← hW1]; exact (Below.heap_alloc _ _ _ (by simp)).trans (World.alloc_heap_new w _)
  have hs1 : W1.heap.size = w.heap.size + 2 := by rw [← hW1]; simp
  have hG1 : G w W1 := by rw [← hW1]; exact ((G.refl w).alloc _).alloc _
  -- the caller's own blocks of book-keeping
  let fo : (Nat → Prop) → Nat → Prop := fun It k => It k ∨ k = w.heap.size ∨ k = w.heap.size + 1
  have hI1 : I [] (fo It0) W1 := hI [] It0 (fo It0) w W1 h0 (fun k hk => .inl hk) (fun k hk => hk.elim .inl (fun h => .inr (by omega))) (hG1.fr _)
  refine ⟨w.heap.size + 1, [{ target := .collected w.heap.size, args := #[] }], W1, { target := .fn (.func gf) lb, args := #[.func (.yield (w.heap.size + 1)) #[] #[]] }, W1, gf,
    #[.func (.yield (w.heap.size + 1)) #[] #[]] ++ lb, W1, ?_, ?_, ?_, ?_, fun h => by simp [Fence.wide] at h, ?_⟩
  · rw [← hW1, hrec]; exact run_enterLoop_outer _ _ _ _ _
  · simp only [resolve, hg]
    simp [go_sem]
  · intro f' _; trivial
  · simp [invoke, go_sem, eg]
  · -- J: the body's invariant, with the two blocks of book-keeping
    have hJs : ∀ (B : (Nat → Prop) → World → Prop) (st : LoopState) (pe : Option Code), Stable B → Stable (fun It W => B (fo It) W ∧ (∀ k, It k → It0 k ∨ w.heap.size + 2 ≤ k) ∧ w.heap.size + 2 ≤ W.heap.size ∧ W.heap[w.heap.size + 1]? = some (.loop (rec st pe)) ∧ W.heap[w.heap.size]? = some (.deferred (some []))) := by
      intro B st pe hB Fo Fo' W W' ⟨h1, h2, h3, h4, h5⟩ hsub hnew hfr
      have hn0 : ¬ Fo (w.heap.size + 1) := fun h => (h2 _ h).elim (fun h => absurd (hIt0 _ h) (by omega)) (fun h => by omega)
      have hn1 : ¬ Fo w.heap.size := fun h => (h2 _ h).elim (fun h => absurd (hIt0 _ h) (by omega)) (fun h => by omega)
      refine ⟨hB (fo Fo) (fo Fo') W W' h1 (fun k hk => hk.imp (hsub k) id) (fun k hk => hk.elim (fun hk => (hnew k hk).imp .inl id) (fun hk => .inl (.inr hk))) (hfr.mono (fun i hi => .inl hi)),
        fun k hk => (hnew k hk).elim (h2 k) (fun h => .inr (by omega)), Nat.le_trans h3 hfr.size, (hfr.block _ (by omega) hn0).trans h4, (hfr.block _ (by omega) hn1).trans h5⟩
    refine CallsIn.mono (callsIn_wide.2 (hseq (w.heap.size + 1)
      (fun pre It W => I pre (fo It) W ∧ (∀ k, It k → It0 k ∨ w.heap.size + 2 ≤ k) ∧ w.heap.size + 2 ≤ W.heap.size ∧ W.heap[w.heap.size + 1]? = some (.loop (rec .ready none)) ∧ W.heap[w.heap.size]? = some (.deferred (some [])))
      (fun pre It W => ∃ c, Ix c pre (fo It) W ∧ (∀ k, It k → It0 k ∨ w.heap.size + 2 ≤ k) ∧ w.heap.size + 2 ≤ W.heap.size ∧ W.heap[w.heap.size + 1]? = some (.loop (rec .done (some c))) ∧ W.heap[w.heap.size]? = some (.deferred (some [])))
      W1 (hw0.trans hG1) (fun p => hJs _ _ _ (hI p))
      (fun p Fo Fo' W W' h a b c => by obtain ⟨cd, h⟩ := h; exact ⟨cd, hJs _ .done (some cd) (hIx cd p) Fo Fo' W W' h a b c⟩)
      ?_ ⟨hI1, fun k hk => .inl hk, by omega, hL1, hK1⟩)) ?_
    · -- ONE ROUND
      rintro pre x It W hItx hlt hsz ⟨hi, h2, h3, hl, hk⟩ hok
      have hy := run_yield (P := P) (args := encs x) hl (by rw [hrec]; exact hps x)
      rw [hrec] at hy
      refine ⟨fn, _, assign, body, hy, roundIn_of_wpIn hfn (hassign _ x W _ ⟨_, run_beginRound hl (by rw [hrec]), ?_⟩)⟩
      have hfol : fo It (w.heap.size + 1) := .inr (.inr rfl)
      have hfoD : fo It w.heap.size := .inr (.inl rfl)
      obtain ⟨W2, hW2⟩ : ∃ W2, (W.putObj (w.heap.size + 1) (.loop { rec .ready none with state := .busy })) = W2 := ⟨_, rfl⟩
      have hl2 : W2.heap[w.heap.size + 1]? = some (.loop { rec .ready none with state := .busy }) := by rw [← hW2]; exact World.putObj_heap_same (by omega)
      have hk2 : W2.heap[w.heap.size]? = some (.deferred (some [])) := by rw [← hW2]; exact (World.putObj_heap_other (by omega)).trans hk
      have hf2 : Fr (fun k => k = w.heap.size + 1) W W2 := by rw [← hW2]; exact putObj_fr _ _ _
      have hs2 : W2.heap.size = W.heap.size := by rw [← hW2]; simp
      have hi2 : I pre (fo It) W2 := hI pre _ _ _ _ hi (fun _ h => h) (fun _ h => .inl h) (hf2.mono (fun i e => by subst e; exact hfol))
      show Code.wpIn _ _ _ _ _ _ (W.putObj (w.heap.size + 1) (.loop { rec .ready none with state := .busy }))
      rw [hW2]
      refine wpIn_mono (hbody _ pre x (fo It) W2 (fun k hk => hk.elim (fun hk => (h2 k hk).imp id (fun h => by omega)) (fun hk => .inr (by omega)))
        (fun k hk => by rw [hs2]; exact hk.elim (hlt k) (fun h => by omega)) (by omega) hi2 hok) ?_
      have fin : ∀ (jump : Option Code) (W3 : World), Fr (fun k => ¬ (fo It k ∨ Ro k)) W2 W3 →
          (Instr.endRound (w.heap.size + 1) jump).run P W3 = .ok (.bool jump.isNone) (W3.putObj (w.heap.size + 1) (.loop (rec (if jump.isNone then .ready else .done) jump))) ∧
          Fr (fun k => ¬ (It k ∨ Ro k)) W (W3.putObj (w.heap.size + 1) (.loop (rec (if jump.isNone then .ready else .done) jump))) ∧
          (∀ B : (Nat → Prop) → World → Prop, Stable B → B (fo It) W3 → B (fo It) (W3.putObj (w.heap.size + 1) (.loop (rec (if jump.isNone then .ready else .done) jump)))) ∧
          w.heap.size + 2 ≤ (W3.putObj (w.heap.size + 1) (.loop (rec (if jump.isNone then .ready else .done) jump))).heap.size ∧
          (W3.putObj (w.heap.size + 1) (.loop (rec (if jump.isNone then .ready else .done) jump))).heap[w.heap.size + 1]? = some (.loop (rec (if jump.isNone then .ready else .done) jump)) ∧
          (W3.putObj (w.heap.size + 1) (.loop (rec (if jump.isNone then .ready else .done) jump))).heap[w.heap.size]? = some (.deferred (some [])) := fun jump W3 hk3 => by
        have hl3 := (hk3.block _ (by omega) (fun h => h (.inl hfol))).trans hl2
        have hd3 := (hk3.block _ (by omega) (fun h => h (.inl hfoD))).trans hk2
        have hz := hk3.size
        have := run_endRound (P := P) jump hl3
        rw [hrec] at this ⊢
        refine ⟨this, ?_, fun B hB hb => hB _ _ _ _ hb (fun _ h => h) (fun _ h => .inl h) ((putObj_fr _ _ _).mono (fun i e => by subst e; exact hfol)), by simp; omega, World.putObj_heap_same (by omega), (World.putObj_heap_other (by omega)).trans hd3⟩
        have hnl : ∀ i, i = w.heap.size + 1 → ¬ (It i ∨ Ro i) := by
          rintro i rfl (h | h)
          · exact (h2 _ h).elim (fun h => absurd (hIt0 _ h) (by omega)) (fun h => by omega)
          · exact absurd (hRo _ h) (by omega)
        refine (hf2.mono hnl).trans (T := fun k => ¬ (It k ∨ Ro k)) ((hk3.mono (fun i hi (hn : It i ∨ Ro i) => hi (hn.imp .inl id))).trans (T := fun k => k = w.heap.size + 1) (putObj_fr _ _ _) (fun i _ e => hnl i e)) (fun _ _ h => h)
      rintro e a3 W3 hp
      cases e with
      | normal =>
        obtain ⟨hk3, hi3⟩ := hp
        obtain ⟨hr, hf, hB, hz, hl4, hk4⟩ := fin none W3 hk3
        exact ⟨_, _, hr, hf, .inl ⟨rfl, hB _ (hI _) hi3, h2, hz, hl4, hk4⟩⟩
      | ret =>
        obtain ⟨hk3, hi3⟩ := hp
        obtain ⟨hr, hf, hB, hz, hl4, hk4⟩ := fin (some .ret) W3 hk3
        exact ⟨_, _, hr, hf, .inr ⟨rfl, .ret, hB _ (hIx _ _) hi3, h2, hz, hl4, hk4⟩⟩
      | exit id =>
        obtain ⟨hk3, hi3⟩ := hp
        obtain ⟨hr, hf, hB, hz, hl4, hk4⟩ := fin (some (.exit id)) W3 hk3
        exact ⟨_, _, hr, hf, .inr ⟨rfl, .exit id, hB _ (hIx _ _) hi3, h2, hz, hl4, hk4⟩⟩
      | goto t =>
        obtain ⟨hk3, hi3⟩ := hp
        obtain ⟨hr, hf, hB, hz, hl4, hk4⟩ := fin (some (.goto t)) W3 hk3
        exact ⟨_, _, hr, hf, .inr ⟨rfl, .goto t, hB _ (hIx _ _) hi3, h2, hz, hl4, hk4⟩⟩
      | panic ch => exact hp.elim
      | outgrown => exact hp.elim
    · -- BEHIND THE ITERATOR
      have hfoi : ∀ (It : Nat → Prop), (∀ k, It k → It0 k ∨ w.heap.size + 2 ≤ k) → ∀ k, fo It k → It0 k ∨ w.heap.size ≤ k := fun It h k hk =>
        hk.elim (fun hk => (h k hk).imp id (fun h => by omega)) (fun hk => .inr (by omega))
      rintro e W2 ⟨⟨v, rfl⟩, It, hsub, hnew, (⟨xs, ⟨hi, h2, h3, hl, hk⟩, hD⟩ | ⟨pre, ⟨c, hi, h2, h3, hl, hk⟩, hP⟩)⟩
      · refine ⟨none, _, by have := run_endLoop (P := P) hl (by rw [hrec]; simp); rw [hrec] at this; exact this, ?_⟩
        exact hdone w.heap.size xs It (fo It) _ W2 (Nat.le_refl _) (by simp; omega) (fun k h => .inl h) (.inr (.inl rfl)) (fun k h => (h2 k h).imp id (fun h => by omega)) (hfoi It h2) hD (putObj_fr _ _ _)
          (hI _ _ _ _ _ hi (fun _ h => h) (fun _ h => .inl h) ((putObj_fr _ _ _).mono (fun i e => by subst e; exact .inr (.inr rfl)))) ((World.putObj_heap_other (by omega)).trans hk)
      · refine ⟨some c, _, by have := run_endLoop (P := P) hl (by rw [hrec]; simp); rw [hrec] at this; exact this, ?_⟩
        exact hstop w.heap.size c pre It (fo It) _ W2 (Nat.le_refl _) (by simp; omega) (fun k h => .inl h) (.inr (.inl rfl)) (fun k h => (h2 k h).imp id (fun h => by omega)) (hfoi It h2) hP (putObj_fr _ _ _)
          (hIx _ _ _ _ _ _ hi (fun _ h => h) (fun _ h => .inl h) ((putObj_fr _ _ _).mono (fun i e => by subst e; exact .inr (.inr rfl)))) ((World.putObj_heap_other (by omega)).trans hk)

theorem Stable.g {J : (Nat → Prop) → World → Prop} (h : Stable J) {Fo : Nat → Prop} {W W' : World} (hj : J Fo W) (hg : G W W') : J Fo W' :=
  h Fo Fo W W' hj (fun _ x => x) (fun _ x => .inl x) (hg.fr _)
theorem G.drewN {a b : World} (h : G a b) (n : Nat) : G a (b.drewN n) := h.trans ⟨rfl, rfl, rfl, Nat.le_refl _, fun _ _ => rfl⟩
/-- a contract at a yield -/
theorem RoundPost.elim {α : Type} {Ro : Nat → Prop} {J Jx : List α → (Nat → Prop) → World → Prop} {xs : List α} {It : Nat → Prop} {W : World} {e : Ending} {W' : World} (h : RoundPost Ro J Jx xs It W e W') :
    (e = .returned (.bool true) ∧ Fr (fun k => ¬ (It k ∨ Ro k)) W W' ∧ J xs It W') ∨ (e = .returned (.bool false) ∧ Fr (fun k => ¬ (It k ∨ Ro k)) W W' ∧ Jx xs It W') :=
  h.2.elim (fun ⟨a, b⟩ => .inl ⟨a, h.1, b⟩) (fun ⟨a, b⟩ => .inr ⟨a, h.1, b⟩)
/-- THE LAW, in the plain walk -/
theorem range_wp {α : Type} {P : Program} {g : Operand} {ps : Array Tmp} {assign body : Code} {Q : Exit → Act → World → Prop} {a : Act} {w : World}
    {gf : Nat} {lb : Array Value} (hg : a.eval g = .func (.func gf) #[] lb) (eg : ∀ args w, (callFunc gf args).run P w = .ok (.enter gf args) w)
    {encs : α → Array Value} {Ro It0 : Nat → Prop} {Done Part : List α → (Nat → Prop) → World → Prop} {OK : List α → α → Prop} {w0 : World} (hseq : Seq P gf lb encs Ro It0 Done Part OK w0)
    (hw0 : G w0 w) (hIt0 : ∀ k, It0 k → k < w.heap.size) (hRo : ∀ k, Ro k → k < w.heap.size) (hps : ∀ x, (encs x).size = ps.size)
    (I : List α → (Nat → Prop) → World → Prop) (Ix : Code → List α → (Nat → Prop) → World → Prop) (hI : ∀ p, Stable (I p)) (hIx : ∀ c p, Stable (Ix c p)) (h0 : I [] It0 w)
    (a₁ : α → Act)
    (hassign : ∀ (l : Nat) (x : α) (W : World) (K : Act → World → Prop), K (a₁ x) W →
      assign.wpIn (Fence.wide.inRound l) 2 P (Exit.then K (fun _ _ _ => False)) { tmps := (ps.zip (encs x)).foldl (fun t (p, v) => t.setIfInBounds p v) a.tmps, defers := [] } W)
    (hbody : ∀ (l : Nat) (pre : List α) (x : α) (Fo : Nat → Prop) (W : World), (∀ k, Fo k → It0 k ∨ w.heap.size ≤ k) → (∀ k, Fo k → k < W.heap.size) → w.heap.size ≤ W.heap.size → I pre Fo W → OK pre x →
      body.wpIn (Fence.wide.inRound l) 2 P (bodyOut Ro I Ix (pre ++ [x]) Fo W) (a₁ x) W)
    (hdone : ∀ (D : Nat) (xs : List α) (It Fo : Nat → Prop) (W W3 : World), w.heap.size ≤ D → D < W.heap.size → (∀ k, It k → Fo k) → Fo D → (∀ k, It k → It0 k ∨ w.heap.size < k) → (∀ k, Fo k → It0 k ∨ w.heap.size ≤ k) → Done xs It W3 → Fr (fun k => k = w.heap.size + 1) W3 W → I xs Fo W → W.heap[D]? = some (.deferred (some [])) →
      Q .normal { a with defers := { target := .collected D, args := #[] } :: a.defers } W)
    (hstop : ∀ (D : Nat) (c : Code) (pre : List α) (It Fo : Nat → Prop) (W W3 : World), w.heap.size ≤ D → D < W.heap.size → (∀ k, It k → Fo k) → Fo D → (∀ k, It k → It0 k ∨ w.heap.size < k) → (∀ k, Fo k → It0 k ∨ w.heap.size ≤ k) → Part pre It W3 → Fr (fun k => k = w.heap.size + 1) W3 W → Ix c pre Fo W → W.heap[D]? = some (.deferred (some [])) →
      c.wp P Q { a with defers := { target := .collected D, args := #[] } :: a.defers } W) :
    (Code.rangeFunc g ps assign body).wp P Q a w :=
  wpIn_wide.1 (range_law hg eg hseq hw0 hIt0 hRo hps I Ix hI hIx h0 a₁ hassign hbody hdone (fun D c pre It Fo W W3 h1 h2 h3 h4 h5 h6 h7 h8 h9 h10 => wpIn_wide.2 (hstop D c pre It Fo W W3 h1 h2 h3 h4 h5 h6 h7 h8 h9 h10)))
/-- a function that holds a range over a function, in the plain walk -/
theorem calls_of_marks {P : Program} {f : FuncId} {fn : Func} {c : Code} {args : Array Value} {w : World} {R : Ending → World → Prop}
    (hf : P.funcs[f]? = some fn) (hb : fn.body = some c)
    (h : c.wp P (bodyPostM Fence.wide 3 P fn R) { tmps := args ++ Array.replicate (fn.ntmps - args.size) undef, defers := [] } w) : Calls P f args w R :=
  callsIn_wide.1 (callsIn_of_wp_marks hf hb trivial (wpIn_wide.2 h) rfl)
theorem Stable.pure (p : Prop) : Stable (fun _ _ => p) := fun _ _ _ _ h _ _ _ => h
theorem Stable.and {J K : (Nat → Prop) → World → Prop} (h : Stable J) (k : Stable K) : Stable (fun Fo W => J Fo W ∧ K Fo W) :=
  fun Fo Fo' W W' x a b c => ⟨h Fo Fo' W W' x.1 a b c, k Fo Fo' W W' x.2 a b c⟩
theorem Stable.ex {β : Type} {J : β → (Nat → Prop) → World → Prop} (h : ∀ x, Stable (J x)) : Stable (fun Fo W => ∃ x, J x Fo W) :=
  fun Fo Fo' W W' ⟨x, hx⟩ a b c => ⟨x, h x Fo Fo' W W' hx a b c⟩
theorem boxed_putObj {W : World} {B D : Nat} {t : TypeId} {v : Value} {o : Obj} (h : Boxed W B t v) (hne : B ≠ D) : Boxed (W.putObj D o) B t v := (World.putObj_heap_other hne).trans h
theorem boxed_other {W : World} {B B' : Nat} {t : TypeId} {v v' : Value} (h : Boxed W B t v) (hne : B ≠ B') : Boxed (W.setCell ⟨B', 0, none⟩ v') B t v := (Below.heap_setCell W _ _ _ hne).trans h
/-- a box of the body's own -/
def FBox (B : Nat) (t : TypeId) (v : Value) (Fo : Nat → Prop) (W : World) : Prop := ¬ Fo B ∧ Boxed W B t v
theorem Stable.box (B : Nat) (t : TypeId) (v : Value) : Stable (FBox B t v) := fun Fo Fo' W W' h a b c =>
  ⟨fun h' => (b B h').elim h.1 (fun h' => absurd h.2.lt (by omega)), c.boxed h.2 h.1⟩
theorem FBox.set {B : Nat} {t : TypeId} {v : Value} {Fo : Nat → Prop} {W : World} (v' : Value) (h : FBox B t v Fo W) : FBox B t v' Fo (W.setCell ⟨B, 0, none⟩ v') := ⟨h.1, h.2.set v'⟩
theorem FBox.other {B B' : Nat} {t : TypeId} {v : Value} {Fo : Nat → Prop} {W : World} (v' : Value) (h : FBox B t v Fo W) (hne : B ≠ B') : FBox B t v Fo (W.setCell ⟨B', 0, none⟩ v') :=
  ⟨h.1, (Below.heap_setCell W _ _ _ hne).trans h.2⟩
theorem FBox.alloc {B : Nat} {t : TypeId} {v : Value} {Fo : Nat → Prop} {W : World} (h : FBox B t v Fo W) (o : Obj) : FBox B t v Fo (W.alloc o) := ⟨h.1, h.2.alloc o⟩
theorem FBox.fr {S : Nat → Prop} {B : Nat} {t : TypeId} {v : Value} {Fo : Nat → Prop} {W W' : World} (h : FBox B t v Fo W) (hf : Fr S W W') (hs : ¬ S B) : FBox B t v Fo W' := ⟨h.1, hf.boxed h.2 hs⟩
/-- a row of the body's own -/
def FRow (base : Nat) (e : TypeId) (size : Nat) (v : Value) (n : Nat) (xs : List Value) (Fo : Nat → Prop) (W : World) : Prop := (∀ g, v.ownBlock = some g → ¬ Fo g) ∧ W.ownsRow base e size v n xs
theorem Stable.row (base : Nat) (e : TypeId) (size : Nat) (v : Value) (n : Nat) (xs : List Value) : Stable (FRow base e size v n xs) := fun Fo Fo' W W' h a b c =>
  ⟨fun g hg h' => (b g h').elim (h.1 g hg) (fun h' => absurd (h.2.lt g hg).2 (by omega)), c.ownsRow h.2 h.1⟩
/-- what was there when the call began lies as it lay -/
def FG (w0 : World) (Fo : Nat → Prop) (W : World) : Prop := (∀ k, Fo k → w0.heap.size ≤ k) ∧ G w0 W
theorem Stable.fg (w0 : World) : Stable (FG w0) := fun Fo Fo' W W' h a b c =>
  ⟨fun k hk => (b k hk).elim (h.1 k) (fun hk => Nat.le_trans h.2.size hk), ⟨c.os.trans h.2.os, c.tape.trans h.2.tape, c.output.trans h.2.output, Nat.le_trans h.2.size c.size,
    fun k hk => (c.block k (Nat.lt_of_lt_of_le hk h.2.size) (fun hf => by have := h.1 k hf; omega)).trans (h.2.block hk)⟩⟩
theorem FG.setCell {w0 : World} {Fo : Nat → Prop} {W : World} (h : FG w0 Fo W) {p : Addr} (hp : w0.heap.size ≤ p.block) (v : Value) : FG w0 Fo (W.setCell p v) := ⟨h.1, h.2.setCell hp v⟩
theorem FG.alloc {w0 : World} {Fo : Nat → Prop} {W : World} (h : FG w0 Fo W) (o : Obj) : FG w0 Fo (W.alloc o) := ⟨h.1, h.2.alloc o⟩
theorem FG.g {w0 : World} {Fo : Nat → Prop} {W W' : World} (h : FG w0 Fo W) (k : G W W') : FG w0 Fo W' := ⟨h.1, h.2.trans k⟩
/-- a block of whatever kind that nobody turns -/
def FBlk (B : Nat) (o : Obj) (Fo : Nat → Prop) (W : World) : Prop := ¬ Fo B ∧ W.heap[B]? = some o
theorem Stable.blk (B : Nat) (o : Obj) : Stable (FBlk B o) := fun Fo Fo' W W' h a b c => by
  have hlt := (Array.getElem?_eq_some_iff.1 h.2).1
  exact ⟨fun h' => (b B h').elim h.1 (fun h' => absurd hlt (by omega)), (c.block B hlt h.1).trans h.2⟩
/-- at the return: the marks are taken up -/
theorem leave_nil {P : Program} {fn : Func} {R : Ending → World → Prop} {tmps : Array Value} {W : World} {v : Value} (hr : (results fn tmps).run P W = .ok v W) (hR : R (.returned v) W) :
    LeavesInM Fence.wide 3 P fn tmps R [] .returning W := ⟨v, hr, hR⟩
theorem leave_mark {P : Program} {fn : Func} {R : Ending → World → Prop} {tmps : Array Value} {W : World} {D : Nat} {ds : List Deferred} (hD : W.heap[D]? = some (.deferred (some [])))
    (h : LeavesInM Fence.wide 3 P fn tmps R ds .returning (W.putObj D (.deferred none))) : LeavesInM Fence.wide 3 P fn tmps R ({ target := .collected D, args := #[] } :: ds) .returning W :=
  ⟨by simp, .inl ⟨_, _, rfl, run_takeDeferred hD, h⟩⟩
end Go.Proofs.Ythhmmjpgefinmaa

/- append, with the block that the new slice lies in -/
namespace Go.Proofs.Ythhmmjpgefinmaa
set_option linter.unusedVariables false
open Go.RowKit
section
variable {P : Program} (w : World)
theorem run_append_own2 (base : Nat) (t ty e : TypeId) (i : TypeInfo) (z : Value) (size bytes : Nat) (ht : P.underlying t = some (.slice e)) (hi : P.info? e = some i) (hz : i.zero = some z)
    (hsize : i.size = size) (hby : i.bytes = bytes) (hzs : z.cells.size = size) (hsz : 0 < size)
    (v : Value) (n : Nat) (xs : List Value) (hown : w.ownsRow base e size v n xs)
    (a : Addr) (m c : Nat) (news : List Value) (hl : news.length = m * size) (hnews : ∀ j u, news[j]? = some u → w.cell? (a.add j) = some u) (h1 : ∀ u ∈ news, u.oneCell' = true)
    (h63 : n + m ≤ maxLen) (hbytes : (n + m) * bytes ≤ 140737488355328) (hbase : base ≤ w.heap.size) :
    ∃ v' w', (Builtin.append_ #[t, t] ty #[v, .slice (some a) m c]).run P w = .ok v' w' ∧ w'.ownsRow base e size v' (n + m) (xs ++ news) ∧ w.grownBy w' v.ownBlock ∧
      (v' = .slice none 0 0 ↔ v = .slice none 0 0 ∧ m = 0) ∧ (∀ g, v'.ownBlock = some g → v.ownBlock = some g ∨ w.heap.size ≤ g) := by
  obtain ⟨v', w', hr, r1, r2, r3⟩ := run_append_own (P := P) w base t ty e i z size bytes ht hi hz hsize hby hzs hsz v n xs hown a m c news hl hnews h1 h63 hbytes hbase
  refine ⟨v', w', hr, r1, r2, r3, ?_⟩
  have hsmall : n + m ≤ 9223372036854775807 := by simp only [maxLen] at h63; omega
  rcases hown.2 with ⟨rfl, rfl⟩ | ⟨g, cap, cur, rfl, hbg, hg, hnc, hcm, hcs, htake⟩
  · by_cases hm : m = 0
    · rw [r3.2 ⟨rfl, hm⟩]; intro g hg; simp [Value.ownBlock] at hg
    · have hr2 := run_append_nil (P := P) w t ty e i z ht hi hz a m c news (by rw [hsize]; exact hl) hnews (by omega) (by omega) (by rw [hby]; simp only [Nat.zero_add] at hbytes; omega)
      rw [hr] at hr2; cases hr2
      intro g hg; simp [Value.ownBlock] at hg; exact .inr (by omega)
  · by_cases hroom : n + m ≤ cap
    · have hfit : n * i.size + news.length ≤ cur.size := by rw [hl, hsize, hcs, ← Nat.add_mul]; exact Nat.mul_le_mul_right _ hroom
      have hr2 := run_append_room (P := P) w t ty e i ht hi g n cap cur hg a m c news (by rw [hsize]; exact hl) hnews h1 hroom hfit
      rw [hr] at hr2; cases hr2
      intro k hk; exact .inl hk
    · have holds : ∀ j u, xs[j]? = some u → w.cell? ((⟨g, 0, none⟩ : Addr).add j) = some u := hown.cells (g := g) rfl
      have hr2 := run_append_grow (P := P) w t ty e i z ht hi hz ⟨g, 0, none⟩ n cap xs (by rw [hsize]; exact hown.1) holds a m c news (by rw [hsize]; exact hl) hnews (by omega) (by omega) (growslice_fits (by omega) (by rw [hby]; exact hbytes))
      rw [hr] at hr2; cases hr2
      intro k hk; simp [Value.ownBlock] at hk; exact .inr (by omega)
end
/-- in the plain walk -/
theorem wpList_append2 {P : Program} (w : World) {ops : Array Oper} {rest : List Oper} {o : Oper} {a : Act} {Q : Exit → Act → World → Prop}
    (hg : o.guard = none) (s x : Operand) (t : TypeId) (hop : o.op = Op.call { callee := Callee.builtin Builtin.append, args := #[s, x], argTypes := #[t, t] })
    (base : Nat) (e : TypeId) (i : TypeInfo) (z : Value) (size bytes : Nat) (h1 : P.underlying t = some (.slice e)) (h2 : P.info? e = some i) (h3 : i.zero = some z) (h4 : i.size = size) (h5 : i.bytes = bytes) (h6 : z.cells.size = size) (h7 : 0 < size)
    (v : Value) (k : Nat) (xs : List Value) (hs : a.eval s = v) (hown : w.ownsRow base e size v k xs) (ad : Addr) (m c : Nat) (news : List Value) (hx : a.eval x = .slice (some ad) m c) (hn : news.length = m * size)
    (hc : ∀ j u, news[j]? = some u → w.cell? (ad.add j) = some u) (h1c : ∀ u ∈ news, u.oneCell' = true) (b1 : k + m ≤ maxLen) (b2 : (k + m) * bytes ≤ 140737488355328) (b3 : base ≤ w.heap.size)
    (hK : ∀ v' w', w'.ownsRow base e size v' (k + m) (xs ++ news) → w.grownBy w' v.ownBlock → (v' = .slice none 0 0 ↔ v = .slice none 0 0 ∧ m = 0) → (∀ g, v'.ownBlock = some g → v.ownBlock = some g ∨ w.heap.size ≤ g) → wpList P ops Q rest (a.put o.dst v') w') :
    wpList P ops Q (o :: rest) a w := by
  refine wpList_plain hg fun K hK' => ?_
  obtain ⟨v', w', hrun, r1, r2, r3, r4⟩ := run_append_own2 (P := P) w base t o.type e i z size bytes h1 h2 h3 h4 h5 h6 h7 v k xs hown ad m c news hn hc h1c b1 b2 b3
  unfold Oper.wp execOp
  simp only [hop, resolve, invoke, builtin, Sem.run_bind, Sem.run_pure, Result.andThen_ok, List.map_toArray, List.map_cons, List.map_nil, hs, hx, hrun]
  exact hK' _ _ (hK v' w' r1 r2 r3 r4)
/-- in a round -/
theorem wpListIn_append2 {F : Fence} {n : Nat} {P : Program} (w : World) {ops : Array Oper} {rest : List Oper} {o : Oper} {a : Act} {Q : Exit → Act → World → Prop}
    (hg : o.guard = none) (s x : Operand) (t : TypeId) (hop : o.op = Op.call { callee := Callee.builtin Builtin.append, args := #[s, x], argTypes := #[t, t] })
    (base : Nat) (e : TypeId) (i : TypeInfo) (z : Value) (size bytes : Nat) (h1 : P.underlying t = some (.slice e)) (h2 : P.info? e = some i) (h3 : i.zero = some z) (h4 : i.size = size) (h5 : i.bytes = bytes) (h6 : z.cells.size = size) (h7 : 0 < size)
    (v : Value) (k : Nat) (xs : List Value) (hs : a.eval s = v) (hown : w.ownsRow base e size v k xs) (ad : Addr) (m c : Nat) (news : List Value) (hx : a.eval x = .slice (some ad) m c) (hn : news.length = m * size)
    (hc : ∀ j u, news[j]? = some u → w.cell? (ad.add j) = some u) (h1c : ∀ u ∈ news, u.oneCell' = true) (b1 : k + m ≤ maxLen) (b2 : (k + m) * bytes ≤ 140737488355328) (b3 : base ≤ w.heap.size)
    (hK : ∀ v' w', w'.ownsRow base e size v' (k + m) (xs ++ news) → w.grownBy w' v.ownBlock → (v' = .slice none 0 0 ↔ v = .slice none 0 0 ∧ m = 0) → (∀ g, v'.ownBlock = some g → v.ownBlock = some g ∨ w.heap.size ≤ g) → wpListIn F n P ops Q rest (a.put o.dst v') w') :
    wpListIn F n P ops Q (o :: rest) a w := by
  refine wpListIn_plain hg fun K hK' => ?_
  obtain ⟨v', w', hrun, r1, r2, r3, r4⟩ := run_append_own2 (P := P) w base t o.type e i z size bytes h1 h2 h3 h4 h5 h6 h7 v k xs hown ad m c news hn hc h1c b1 b2 b3
  unfold Oper.wpIn
  refine ⟨?_, ?_⟩
  · simp [Oper.about, hop, resolve, Target.leads, Sem.run_pure]
  · rw [Oper.semAt_plain F _ _ (by rw [hop]; intro c hc'; cases hc')]
    simp [execOp, hop, resolve, invoke, builtin, hs, hx, hrun, Result.andThen]
    exact hK' _ _ (hK v' w' r1 r2 r3 r4)
/-- what an append leaves, of the block tmp that was laid for the values -/
theorem FRow.appended {base : Nat} {e : TypeId} {size : Nat} {v v' : Value} {n m : Nat} {xs ys : List Value} {Fo : Nat → Prop} {W w1 : World} {tmp : Obj}
    (h : FRow base e size v n xs Fo W) (hown : w1.ownsRow base e size v' m ys) (hgrow : (W.alloc tmp).grownBy w1 v.ownBlock) (hg : ∀ g, v'.ownBlock = some g → v.ownBlock = some g ∨ (W.alloc tmp).heap.size ≤ g) (hfl : ∀ k, Fo k → k < W.heap.size) :
    FRow base e size v' m ys Fo w1 ∧ Fr (fun k => v.ownBlock = some k) W w1 := by
  refine ⟨⟨fun g hv hf => ?_, hown⟩, ?_⟩
  · rcases hg g hv with h' | h'
    · exact h.1 g h' hf
    · have := hfl g hf; simp at h'; omega
  · exact ((G.alloc (G.refl W) tmp).fr (fun k => v.ownBlock = some k)).trans (grownBy_fr hgrow) (fun _ _ x => x)
theorem FRow.setCell {base : Nat} {e : TypeId} {size : Nat} {v : Value} {n : Nat} {xs : List Value} {Fo : Nat → Prop} {W : World} (h : FRow base e size v n xs Fo W) {p : Addr} (hp : p.block < base) (u : Value) : FRow base e size v n xs Fo (W.setCell p u) :=
  ⟨h.1, ownsRow_setCell_below h.2 hp u⟩
theorem FRow.own {base : Nat} {e : TypeId} {size : Nat} {v : Value} {n : Nat} {xs : List Value} {Fo : Nat → Prop} {W : World} (h : FRow base e size v n xs Fo W) : W.ownsRow base e size v n xs := h.2
/-- an append to a row of the body's own breaks no word to the iterator -/
theorem Fr.ofRow {base : Nat} {e : TypeId} {size : Nat} {v : Value} {n : Nat} {xs : List Value} {Fo Ro : Nat → Prop} {W w1 : World} (h : Fr (fun k => v.ownBlock = some k) W w1) (hr : FRow base e size v n xs Fo W) (hRo : ∀ k, Ro k → k < base) : Fr (fun k => ¬ (Fo k ∨ Ro k)) W w1 :=
  h.mono fun k hk hn => hn.elim (hr.1 k hk) (fun h' => by have := hRo k h'; have := (hr.2.lt k hk).1; omega)
theorem ownsRow_putObj2 {W : World} {base : Nat} {e : TypeId} {size : Nat} {v : Value} {k : Nat} {xs : List Value} (h : W.ownsRow base e size v k xs) {D : Nat} {o : Obj} (hD : W.heap[D]? = some (.deferred (some []))) : (W.putObj D o).ownsRow base e size v k xs :=
  ownsRow_putObj h o hD rfl
theorem ownsRow_shape {W : World} {base : Nat} {e : TypeId} {size : Nat} {v : Value} {k : Nat} {xs : List Value} (h : W.ownsRow base e size v k xs) : ∃ p c, v = .slice p k c := by
  rcases h.2 with ⟨rfl, rfl⟩ | ⟨g, cap, cur, rfl, _⟩
  · exact ⟨_, _, rfl⟩
  · exact ⟨_, _, rfl⟩
theorem ownsRow_mono {W : World} {base base' : Nat} {e : TypeId} {size : Nat} {v : Value} {k : Nat} {xs : List Value} (h : W.ownsRow base e size v k xs) (hb : base' ≤ base) : W.ownsRow base' e size v k xs := by
  refine ⟨h.1, ?_⟩
  rcases h.2 with h | ⟨g, cap, cur, h1, h2, h3⟩
  · exact .inl h
  · exact .inr ⟨g, cap, cur, h1, Nat.le_trans hb h2, h3⟩
end Go.Proofs.Ythhmmjpgefinmaa

/- Rows that are read, wherever they lie. -/
namespace Go.Proofs.Ythhmmjpgefinmaa
set_option linter.unusedVariables false
open Go.RowKit
/-- the slice v has n elements of so many cells each, and reads as xs -/
def Rdr (W : World) (size : Nat) (v : Value) (n : Nat) (xs : List Value) : Prop :=
  xs.length = n * size ∧ ∃ p c, v = .slice p n c ∧ (0 < n → ∃ b o, p = some ⟨b, o, none⟩ ∧ ∀ j u, xs[j]? = some u → W.cell? ⟨b, o + j, none⟩ = some u)
theorem Rdr.nil (W : World) (size : Nat) (p : Option Addr) (c : Nat) : Rdr W size (.slice p 0 c) 0 [] := ⟨by simp, p, c, rfl, fun h => by omega⟩
theorem Rdr.fr {S : Nat → Prop} {W W' : World} {size n : Nat} {v : Value} {xs : List Value} (hr : Rdr W size v n xs) (h : Fr S W W') (hs : ∀ g, v.ownBlock = some g → ¬ S g) : Rdr W' size v n xs := by
  obtain ⟨h1, p, c, rfl, h2⟩ := hr
  refine ⟨h1, p, c, rfl, fun hn => ?_⟩
  obtain ⟨b, o, rfl, hc⟩ := h2 hn
  exact ⟨b, o, rfl, fun j u hu => h.cell (hs b rfl) (hc j u hu)⟩
theorem Rdr.g {W W' : World} {size n : Nat} {v : Value} {xs : List Value} (hr : Rdr W size v n xs) (h : G W W') : Rdr W' size v n xs := hr.fr (h.fr (fun _ => False)) (fun _ _ x => x)
theorem Rdr.alloc {W : World} {size n : Nat} {v : Value} {xs : List Value} (hr : Rdr W size v n xs) (o : Obj) : Rdr (W.alloc o) size v n xs := hr.g ((G.refl W).alloc o)
theorem Rdr.lt {W : World} {size n : Nat} {v : Value} {xs : List Value} (hr : Rdr W size v n xs) (hn : 0 < n) (hs : 0 < size) : ∀ g, v.ownBlock = some g → g < W.heap.size := by
  obtain ⟨h1, p, c, rfl, h2⟩ := hr
  obtain ⟨b, o, rfl, hc⟩ := h2 hn
  intro g hg
  cases hg
  have hpos : 0 < n * size := Nat.mul_pos hn hs
  obtain ⟨u, hu⟩ : ∃ u, xs[0]? = some u := ⟨xs[0]'(by omega), List.getElem?_eq_getElem _⟩
  exact World.block_lt_of_cell? W _ (hc 0 u hu)
theorem addr_add (b o j : Nat) : (⟨b, o, none⟩ : Addr).add j = ⟨b, o + j, none⟩ := by unfold Addr.add; split <;> simp_all
theorem rdr_of_owns {W : World} {base : Nat} {e : TypeId} {size n : Nat} {v : Value} {xs : List Value} (h : W.ownsRow base e size v n xs) : Rdr W size v n xs := by
  refine ⟨h.1, ?_⟩
  rcases h.2 with ⟨rfl, rfl⟩ | ⟨g, cap, cur, rfl, _⟩
  · exact ⟨_, _, rfl, fun h => by omega⟩
  · refine ⟨_, _, rfl, fun _ => ⟨g, 0, rfl, fun j u hu => ?_⟩⟩
    have := h.cells (g := g) rfl j u hu
    rwa [addr_add] at this
/-- one cell each -/
theorem Rdr.at {W : World} {n : Nat} {v : Value} {xs : List Value} (hr : Rdr W 1 v n xs) : ∃ p c, v = .slice p n c ∧ xs.length = n ∧ (0 < n → ∃ b o, p = some ⟨b, o, none⟩ ∧ ∀ j u, xs[j]? = some u → W.cell? ⟨b, o + j, none⟩ = some u) := by
  obtain ⟨h1, p, c, rfl, h2⟩ := hr
  exact ⟨p, c, rfl, by omega, h2⟩
theorem Rdr.one {W : World} {size n : Nat} {p : Option Addr} {c : Nat} {xs : List Value} (hr : Rdr W size (.slice p n c) n xs) (hn : 0 < n) : ∃ b o, p = some ⟨b, o, none⟩ ∧ ∀ j u, xs[j]? = some u → W.cell? ⟨b, o + j, none⟩ = some u := by
  obtain ⟨h1, p', c', hv, h2⟩ := hr
  cases hv
  exact h2 hn
theorem cell_alloc_at (w : World) (xs : List Value) (e : TypeId) (z : Nat × Nat) (j : Nat) (u : Value) (hu : xs[j]? = some u) : (w.alloc (.cells xs.toArray e z)).cell? ⟨w.heap.size, 0 + j, none⟩ = some u := by
  unfold World.cell?
  rw [alloc_new]
  simp [hu]
theorem rdr_alloc (w : World) (xs : List Value) (e : TypeId) (z : Nat × Nat) (size n c : Nat) (hl : xs.length = n * size) : Rdr (w.alloc (.cells xs.toArray e z)) size (.slice (some ⟨w.heap.size, 0, none⟩) n c) n xs :=
  ⟨hl, _, _, rfl, fun _ => ⟨_, _, rfl, cell_alloc_at w xs e z⟩⟩
/-- some blocks, one behind the other -/
def allocs (w : World) : List Obj → World
  | [] => w
  | o :: os => allocs (w.alloc o) os
theorem allocs_g (w : World) : ∀ os : List Obj, G w (allocs w os)
  | [] => G.refl w
  | o :: os => ((G.refl w).alloc o).trans (allocs_g (w.alloc o) os)
theorem allocs_size (w : World) (os : List Obj) : (allocs w os).heap.size = w.heap.size + os.length := by
  induction os generalizing w with
  | nil => rfl
  | cons o os ih => rw [allocs, ih, World.size_alloc, List.length_cons]; omega
theorem allocs_at (w : World) (os : List Obj) (i : Nat) (o : Obj) (h : os[i]? = some o) : (allocs w os).heap[w.heap.size + i]? = some o := by
  induction os generalizing w i with
  | nil => simp at h
  | cons x os ih =>
    cases i with
    | zero =>
      simp at h; subst h
      exact ((allocs_g (w.alloc x) os).block (by simp)).trans (alloc_new w x)
    | succ i =>
      have := ih (w.alloc x) i (by simpa using h)
      rw [World.size_alloc] at this
      rw [show w.heap.size + (i + 1) = w.heap.size + 1 + i by omega]
      exact this
theorem boxed_at (w : World) (os : List Obj) (i : Nat) (t : TypeId) (v : Value) (h : os[i]? = some (.cells #[v] t (0, 0))) : Boxed (allocs w os) (w.heap.size + i) t v := allocs_at w os i _ h
theorem Fr.drewN {S : Nat → Prop} {a b : World} (h : Fr S a b) (n : Nat) : Fr S a (b.drewN n) := h.trans ((G.drewN (G.refl b) n).fr S) (fun _ _ x => x)
theorem ownsRow_drewN {W : World} {base : Nat} {e : TypeId} {size : Nat} {v : Value} {k : Nat} {xs : List Value} (h : W.ownsRow base e size v k xs) (n : Nat) : (W.drewN n).ownsRow base e size v k xs := h
theorem cell_set_ne {W : World} {p q : Addr} {v u : Value} (h : W.cell? q = some u) (hne : q.block ≠ p.block) : (W.setCell p v).cell? q = some u := (World.cell?_of_block (Below.heap_setCell W p v _ hne)).trans h
theorem frozen_set {W : World} {p q : Addr} {v : Value} (h : W.frozen? q = false) : (W.setCell p v).frozen? q = false := by rw [World.frozen?_setCell]; exact h
theorem heap_setCell_at (W : World) (B j : Nat) (v : Value) (cs : Array Value) (t : TypeId) (z : Nat × Nat) (h : W.heap[B]? = some (.cells cs t z)) : (W.setCell ⟨B, j, none⟩ v).heap[B]? = some (.cells (cs.setIfInBounds j v) t z) := by
  show (W.heap.modify B _)[B]? = _
  rw [Array.getElem?_modify, h]; simp
section
variable {P : Program} (w : World)
/-- append of whatever was read to a row of one's own -/
theorem run_appendR (base : Nat) (t ty e : TypeId) (i : TypeInfo) (z : Value) (size bytes : Nat) (ht : P.underlying t = some (.slice e)) (hi : P.info? e = some i) (hz : i.zero = some z)
    (hsize : i.size = size) (hby : i.bytes = bytes) (hzs : z.cells.size = size) (hsz : 0 < size) (v : Value) (n : Nat) (xs : List Value) (hown : w.ownsRow base e size v n xs)
    (u : Value) (m : Nat) (news : List Value) (hr : Rdr w size u m news) (h1 : ∀ u ∈ news, u.oneCell' = true) (h63 : n + m ≤ maxLen) (hbytes : (n + m) * bytes ≤ 140737488355328) (hbase : base ≤ w.heap.size) :
    ∃ v' w', (Builtin.append_ #[t, t] ty #[v, u]).run P w = .ok v' w' ∧ w'.ownsRow base e size v' (n + m) (xs ++ news) ∧ w.grownBy w' v.ownBlock ∧ (∀ g, v'.ownBlock = some g → v.ownBlock = some g ∨ w.heap.size ≤ g) := by
  obtain ⟨hl, p, c, rfl, hc⟩ := hr
  cases p with
  | none =>
    have hm : m = 0 := by
      rcases Nat.eq_zero_or_pos m with h | h
      · exact h
      · obtain ⟨b, o, h, _⟩ := hc h; cases h
    subst hm
    have hn : news = [] := List.eq_nil_of_length_eq_zero (by simpa using hl)
    subst hn
    refine ⟨v, w, ?_, by simpa using hown, ⟨rfl, rfl, rfl, Nat.le_refl _, fun _ _ _ => rfl⟩, fun g hg => .inl hg⟩
    rcases hown.2 with ⟨rfl, rfl⟩ | ⟨g, cap, cur, rfl, _, _, hnc, _⟩
    · simp [Builtin.append_, run_underlying ht, sizeOf, typeInfo, hi, Builtin.lenOf, Builtin.firstCells]
    · simp [Builtin.append_, run_underlying ht, sizeOf, typeInfo, hi, Builtin.lenOf, Builtin.firstCells, hnc, storeCells]
  | some a =>
    have hcells : ∀ j u, news[j]? = some u → w.cell? (a.add j) = some u := fun j u hu => by
      rcases Nat.eq_zero_or_pos m with h | h
      · subst h
        have hn : news = [] := List.eq_nil_of_length_eq_zero (by simpa using hl)
        subst hn; simp at hu
      · obtain ⟨b, o, h, hc'⟩ := hc h
        cases h
        rw [addr_add]; exact hc' j u hu
    obtain ⟨v', w', h1', h2, h3, _, h5⟩ := run_append_own2 (P := P) w base t ty e i z size bytes ht hi hz hsize hby hzs hsz v n xs hown a m c news hl hcells h1 h63 hbytes hbase
    exact ⟨v', w', h1', h2, h3, h5⟩
/-- in the plain walk -/
theorem wpList_appendR {ops : Array Oper} {rest : List Oper} {o : Oper} {a : Act} {Q : Exit → Act → World → Prop}
    (hg : o.guard = none) (s x : Operand) (t : TypeId) (hop : o.op = Op.call { callee := Callee.builtin Builtin.append, args := #[s, x], argTypes := #[t, t] })
    (base : Nat) (e : TypeId) (i : TypeInfo) (z : Value) (size bytes : Nat) (h1 : P.underlying t = some (.slice e)) (h2 : P.info? e = some i) (h3 : i.zero = some z) (h4 : i.size = size) (h5 : i.bytes = bytes) (h6 : z.cells.size = size) (h7 : 0 < size)
    (v : Value) (k : Nat) (xs : List Value) (hs : a.eval s = v) (hown : w.ownsRow base e size v k xs) (u : Value) (m : Nat) (news : List Value) (hx : a.eval x = u) (hr : Rdr w size u m news)
    (h1c : ∀ u ∈ news, u.oneCell' = true) (b1 : k + m ≤ maxLen) (b2 : (k + m) * bytes ≤ 140737488355328) (b3 : base ≤ w.heap.size)
    (hK : ∀ p' c' w', w'.ownsRow base e size (.slice p' (k + m) c') (k + m) (xs ++ news) → w.grownBy w' v.ownBlock → (∀ g, (Value.slice p' (k + m) c').ownBlock = some g → v.ownBlock = some g ∨ w.heap.size ≤ g) → wpList P ops Q rest (a.put o.dst (.slice p' (k + m) c')) w') :
    wpList P ops Q (o :: rest) a w := by
  refine wpList_plain hg fun K hK' => ?_
  obtain ⟨v', w', hrun, r1, r2, r4⟩ := run_appendR (P := P) w base t o.type e i z size bytes h1 h2 h3 h4 h5 h6 h7 v k xs hown u m news hr h1c b1 b2 b3
  obtain ⟨p', c', rfl⟩ := ownsRow_shape r1
  unfold Oper.wp execOp
  simp only [hop, resolve, invoke, builtin, Sem.run_bind, Sem.run_pure, Result.andThen_ok, List.map_toArray, List.map_cons, List.map_nil, hs, hx, hrun]
  exact hK' _ _ (hK p' c' w' r1 r2 r4)
/-- in a round -/
theorem wpListIn_appendR {F : Fence} {nF : Nat} {ops : Array Oper} {rest : List Oper} {o : Oper} {a : Act} {Q : Exit → Act → World → Prop}
    (hg : o.guard = none) (s x : Operand) (t : TypeId) (hop : o.op = Op.call { callee := Callee.builtin Builtin.append, args := #[s, x], argTypes := #[t, t] })
    (base : Nat) (e : TypeId) (i : TypeInfo) (z : Value) (size bytes : Nat) (h1 : P.underlying t = some (.slice e)) (h2 : P.info? e = some i) (h3 : i.zero = some z) (h4 : i.size = size) (h5 : i.bytes = bytes) (h6 : z.cells.size = size) (h7 : 0 < size)
    (v : Value) (k : Nat) (xs : List Value) (hs : a.eval s = v) (hown : w.ownsRow base e size v k xs) (u : Value) (m : Nat) (news : List Value) (hx : a.eval x = u) (hr : Rdr w size u m news)
    (h1c : ∀ u ∈ news, u.oneCell' = true) (b1 : k + m ≤ maxLen) (b2 : (k + m) * bytes ≤ 140737488355328) (b3 : base ≤ w.heap.size)
    (hK : ∀ p' c' w', w'.ownsRow base e size (.slice p' (k + m) c') (k + m) (xs ++ news) → w.grownBy w' v.ownBlock → (∀ g, (Value.slice p' (k + m) c').ownBlock = some g → v.ownBlock = some g ∨ w.heap.size ≤ g) → wpListIn F nF P ops Q rest (a.put o.dst (.slice p' (k + m) c')) w') :
    wpListIn F nF P ops Q (o :: rest) a w := by
  refine wpListIn_plain hg fun K hK' => ?_
  obtain ⟨v', w', hrun, r1, r2, r4⟩ := run_appendR (P := P) w base t o.type e i z size bytes h1 h2 h3 h4 h5 h6 h7 v k xs hown u m news hr h1c b1 b2 b3
  obtain ⟨p', c', rfl⟩ := ownsRow_shape r1
  unfold Oper.wpIn
  refine ⟨?_, ?_⟩
  · simp [Oper.about, hop, resolve, Target.leads, Sem.run_pure]
  · rw [Oper.semAt_plain F _ _ (by rw [hop]; intro c hc'; cases hc')]
    simp [execOp, hop, resolve, invoke, builtin, hs, hx, hrun, Result.andThen]
    exact hK' _ _ (hK p' c' w' r1 r2 r4)
end
/-- a value that was laid for itself -/
theorem rdr_one (w : World) (xs : List Value) (e : TypeId) (z : Nat × Nat) (size : Nat) (h : xs.length = size) : Rdr (w.alloc (.cells xs.toArray e z)) size (.slice (some ⟨w.heap.size, 0, none⟩) 1 1) 1 xs := rdr_alloc w xs e z size 1 1 (by omega)
end Go.Proofs.Ythhmmjpgefinmaa
