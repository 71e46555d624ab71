/- What all seats share: frames between worlds. -/
import Derived.Test.YtamhlflacnldfaaDoorProg
import Derived.WalkKit
import Derived.ProofKit
import Derived.OpenShut
import Derived.Handy
import Derived.Lib.Hide
import Derived.WalkSpells
import Derived.WalkLawsBesides
import Derived.RangeFuncNested
import Derived.RangeFuncBound
import Derived.RangeFuncCalls
import Derived.RangeFuncLeaves
import Derived.OwnWalkIn
import Derived.TacticsInMore
import Derived.LoopNIn
import Derived.LoopIn
import Derived.Shelf.Abstract
import Derived.Maps.AppendAt
namespace Go.Proofs.YtamhlflacnldfaaDoor
set_option linter.unusedVariables false
open Go.RowKit

/-- of what was there nothing has turned, but for the blocks in S -/
structure Fr (S : Nat → Prop) (w w' : World) : Prop where
  os : w'.os = w.os
  tape : w'.tape = w.tape
  output : w'.output = w.output
  size : w.heap.size ≤ w'.heap.size
  block : ∀ k, k < w.heap.size → ¬ S k → w'.heap[k]? = w.heap[k]?
/-- of what was there nothing has turned -/
def G (w w' : World) : Prop := Below w.heap.size w w'
theorem G.refl (w : World) : G w w := Below.refl _ _
theorem G.size {a b : World} (h : G a b) : a.heap.size ≤ b.heap.size := Below.size h
theorem G.trans {a b c : World} (h : G a b) (k : G b c) : G a c := Below.trans h (Below.mono k h.size)
theorem G.drew {a b : World} (h : G a b) : G a b.drew := Below.drew h
theorem G.alloc {a b : World} (h : G a b) (o : Obj) : G a (b.alloc o) := Below.alloc h h.size o
theorem G.setCell {a b : World} (h : G a b) {p : Addr} (hp : a.heap.size ≤ p.block) (v : Value) : G a (b.setCell p v) := Below.setCell h hp v
theorem G.grown {a b c : World} {row : Option Nat} (h : G a b) (hg : b.grownBy c row) (hr : ∀ k, row = some k → a.heap.size ≤ k) : G a c := Below.grown h hg h.size hr
theorem G.block {a b : World} (h : G a b) {k : Nat} (hk : k < a.heap.size) : b.heap[k]? = a.heap[k]? := Below.block h k hk
theorem G.cell {a b : World} (h : G a b) {p : Addr} {v : Value} (hc : a.cell? p = some v) : b.cell? p = some v :=
  (Below.cell h (World.block_lt_of_cell? a p hc)).trans hc
theorem G.frozen {a b : World} (h : G a b) {p : Addr} (hp : p.block < a.heap.size) : b.frozen? p = a.frozen? p := Below.frozen h hp
theorem G.fr {a b : World} (h : G a b) (S : Nat → Prop) : Fr S a b := ⟨h.os, h.tape, h.output, h.size, fun _ hk _ => h.block hk⟩
theorem G.frame {a b : World} (h : G a b) (may : MemPlace → Prop) : a.keptBut b may := Below.frame h may
theorem Fr.refl (S : Nat → Prop) (w : World) : Fr S w w := ⟨rfl, rfl, rfl, Nat.le_refl _, fun _ _ _ => rfl⟩
theorem Fr.trans {S T : Nat → Prop} {a b c : World} (h : Fr S a b) (k : Fr T b c) (hST : ∀ i, i < a.heap.size → T i → S i) : Fr S a c :=
  ⟨k.os.trans h.os, k.tape.trans h.tape, k.output.trans h.output, Nat.le_trans h.size k.size, fun i hi hs =>
    (k.block i (Nat.lt_of_lt_of_le hi h.size) (fun ht => hs (hST i hi ht))).trans (h.block i hi hs)⟩
theorem Fr.mono {S T : Nat → Prop} {a b : World} (h : Fr S a b) (hST : ∀ i, S i → T i) : Fr T a b :=
  ⟨h.os, h.tape, h.output, h.size, fun i hi hs => h.block i hi (fun x => hs (hST i x))⟩
theorem Fr.cell {S : Nat → Prop} {a b : World} (h : Fr S a b) {p : Addr} {v : Value} (hs : ¬ S p.block) (hc : a.cell? p = some v) : b.cell? p = some v :=
  (World.cell?_of_block (h.block p.block (World.block_lt_of_cell? a p hc) hs)).trans hc
theorem Fr.g {S : Nat → Prop} {a b : World} (h : Fr S a b) (hS : ∀ i, S i → a.heap.size ≤ i) : G a b :=
  ⟨h.os, h.tape, h.output, h.size, fun k hk => h.block k hk (fun s => by have := hS k s; omega)⟩
theorem Fr.alloc {S : Nat → Prop} {a b : World} (h : Fr S a b) (o : Obj) : Fr S a (b.alloc o) :=
  h.trans ((G.alloc (G.refl b) o).fr S) (fun _ _ x => x)
theorem Fr.drew {S : Nat → Prop} {a b : World} (h : Fr S a b) : Fr S a b.drew := h.trans ((G.drew (G.refl b)).fr S) (fun _ _ x => x)
theorem Fr.setCell {S : Nat → Prop} {a b : World} (h : Fr S a b) {p : Addr} (hp : S p.block ∨ a.heap.size ≤ p.block) (v : Value) : Fr S a (b.setCell p v) := by
  refine h.trans (T := fun i => i = p.block) ⟨rfl, rfl, rfl, by simp [World.setCell], fun k _ hk => Below.heap_setCell _ _ _ _ hk⟩ ?_
  rintro i hi rfl; rcases hp with hp | hp
  · exact hp
  · omega
theorem grownBy_fr {b c : World} {row : Option Nat} (hg : b.grownBy c row) : Fr (fun k => row = some k) b c :=
  ⟨hg.os, hg.tape, hg.output, hg.size, fun k hk hn => hg.block k hk (fun e => hn e.symm)⟩
theorem Fr.boxed {S : Nat → Prop} {a b : World} (h : Fr S a b) {B : Nat} {t : TypeId} {v : Value} (hb : Boxed a B t v) (hs : ¬ S B) : Boxed b B t v := (h.block B hb.lt hs).trans hb
theorem G.boxed {a b : World} (h : G a b) {B : Nat} {t : TypeId} {v : Value} (hb : Boxed a B t v) : Boxed b B t v := (h.block hb.lt).trans hb
theorem Fr.ownsRow {S : Nat → Prop} {a b : World} (h : Fr S a b) {base : Nat} {e : TypeId} {size n : Nat} {v : Value} {xs : List Value} (hr : a.ownsRow base e size v n xs) (hs : ∀ g, v.ownBlock = some g → ¬ S g) :
    b.ownsRow base e size v n xs := by
  refine ⟨hr.1, ?_⟩
  rcases hr.2 with hn | ⟨g, cap, cur, rfl, hb, hgg, rest⟩
  · exact .inl hn
  · exact .inr ⟨g, cap, cur, rfl, hb, (h.block g (Array.getElem?_eq_some_iff.1 hgg).1 (hs g rfl)).trans hgg, rest⟩
theorem G.ownsRow {a b : World} (h : G a b) {base : Nat} {e : TypeId} {size n : Nat} {v : Value} {xs : List Value} (hr : a.ownsRow base e size v n xs) : b.ownsRow base e size v n xs :=
  (h.fr (fun _ => False)).ownsRow hr (fun _ _ => id)
theorem boxed_of_block {W : World} {B : Nat} {t : TypeId} {v : Value} (h : W.heap[B]? = some (.cells #[v] t (0, 0))) : Boxed W B t v := h
theorem alloc_new (w : World) (o : Obj) : (w.alloc o).heap[w.heap.size]? = some o := World.alloc_heap_new w o
theorem alloc_old {w : World} {k : Nat} (o : Obj) (h : k < w.heap.size) : (w.alloc o).heap[k]? = w.heap[k]? := Below.heap_alloc w o k h
end Go.Proofs.YtamhlflacnldfaaDoor
