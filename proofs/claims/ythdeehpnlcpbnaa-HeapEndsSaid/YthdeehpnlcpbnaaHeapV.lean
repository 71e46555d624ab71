/- both heaps at once -/
import Derived.Test.YthdeehpnlcpbnaaHeapU
namespace Go.Proofs.Ythdeehpnlcpbnaa
set_option linter.unusedVariables false
set_option linter.unusedSimpArgs false

structure Two (w W : World) (S T : Nat → Prop) (B R : Nat) (hs L : List Item) : Prop where
  h : HeapNow S B hs W
  r : ∃ v, RefAt T W R v L
  apS : ∀ q, S q → w.heap.size ≤ q
  apT : ∀ q, T q → w.heap.size ≤ q
  ap : ∀ q, S q → ¬ T q
  g : G w W
theorem Two.ltS {w W : World} {S T : Nat → Prop} {B R : Nat} {hs L : List Item} (h : Two w W S T B R hs L) : ∀ q, S q → q < W.heap.size := h.h.elim fun v k => k.lt
theorem Two.ltT {w W : World} {S T : Nat → Prop} {B R : Nat} {hs L : List Item} (h : Two w W S T B R hs L) : ∀ q, T q → q < W.heap.size := h.r.elim fun v k => k.lt
theorem Two.fr {w W W' : World} {S T U : Nat → Prop} {B R : Nat} {hs L : List Item} (h : Two w W S T B R hs L) (hf : Fr U W W') (hU : ∀ q, U q → ¬ S q ∧ ¬ T q ∧ w.heap.size ≤ q) : Two w W' S T B R hs L :=
  ⟨h.h.fr hf (fun k hk hu => (hU k hu).1 hk), h.r.elim fun v hv => ⟨v, hv.fr hf (fun k hk hu => (hU k hu).2.1 hk)⟩, h.apS, h.apT, h.ap, ((h.g.fr (fun q => w.heap.size ≤ q)).trans (hf.mono (fun q e => (hU q e).2.2)) (fun _ _ h => h)).g (fun _ h => h)⟩
theorem Two.go {w W W' : World} {S T : Nat → Prop} {B R : Nat} {hs L : List Item} (h : Two w W S T B R hs L) (hg : G W W') : Two w W' S T B R hs L :=
  h.fr (hg.fr (fun _ => False)) (fun _ h => h.elim)
theorem Two.heap {w W W' : World} {S S' T : Nat → Prop} {B R : Nat} {hs hs' L : List Item} (h : Two w W S T B R hs L) (k : ∃ v', HeapAt S' W' B v' hs') (gr : Grows S S' W) (hf : Fr S W W') : Two w W' S' T B R hs' L :=
  ⟨k, h.r.elim fun v hv => ⟨v, hv.fr hf (fun q hq hs => h.ap q hs hq)⟩, fun q hq => (gr.new q hq).elim (h.apS q) (fun e => Nat.le_trans h.g.size e), h.apT,
    fun q hq ht => (gr.new q hq).elim (fun e => h.ap q e ht) (fun e => by have := h.ltT q ht; omega),
    ((h.g.fr (fun q => w.heap.size ≤ q)).trans (hf.mono (fun q e => h.apS q e)) (fun _ _ h => h)).g (fun _ h => h)⟩
theorem Two.ref {w W W' : World} {S T T' : Nat → Prop} {B R : Nat} {hs L L' : List Item} (h : Two w W S T B R hs L) (k : ∃ v', RefAt T' W' R v' L') (hT : ∀ q, T' q → T q ∨ W.heap.size ≤ q) (hf : Fr (fun q => q = R) W W') : Two w W' S T' B R hs L' := by
  have hR : T R := h.r.elim fun v hv => hv.inR
  exact ⟨h.h.fr hf (fun q hq e => by subst e; exact h.ap q hq hR), k, h.apS, fun q hq => (hT q hq).elim (h.apT q) (fun e => Nat.le_trans h.g.size e),
    fun q hq ht => (hT q ht).elim (fun e => h.ap q hq e) (fun e => by have := h.ltS q hq; omega),
    ((h.g.fr (fun q => w.heap.size ≤ q)).trans (hf.mono (fun q e => by rw [e]; exact h.apT R hR)) (fun _ _ h => h)).g (fun _ h => h)⟩
theorem Two.copy {w W W' : World} {S S2 T : Nat → Prop} {B B2 R : Nat} {hs L : List Item} (h : Two w W S T B R hs L) (k : ∃ v', HeapAt S2 W' B2 v' hs) (hS : ∀ q, S2 q → W.heap.size ≤ q) (hg : G W W') : Two w W' S2 T B2 R hs L :=
  ⟨k, h.r.elim fun v hv => ⟨v, hv.g hg⟩, fun q hq => Nat.le_trans h.g.size (hS q hq), h.apT, fun q hq ht => by have := hS q hq; have := h.ltT q ht; omega, h.g.trans hg⟩

theorem inss_mem : ∀ {ys L : List Item} {x : Item}, x ∈ inss L ys → x ∈ L ∨ x ∈ ys
  | [], L, x, h => .inl h
  | y :: ys, L, x, h => by
    rcases inss_mem (ys := ys) (L := insL y L) h with h | h
    · rcases List.mem_cons.1 ((insL_perm y L).mem_iff.1 h) with h | h
      · exact .inr (by rw [h]; simp)
      · exact .inl h
    · exact .inr (List.mem_cons_of_mem _ h)
structure Ls (hs L : List Item) (k : Nat) : Prop where
  hl : HL hs L
  len : hs.length ≤ 600 + k * 600
  key : ∀ x ∈ L, x.1 ≤ 9223372036854775807
theorem Ls.push {hs L ys : List Item} {k : Nat} (h : Ls hs L k) (hy : ys.length ≤ 600) (hk : ∀ x ∈ ys, x.1 ≤ 9223372036854775807) : Ls (pushes hs ys) (inss L ys) (k + 1) :=
  ⟨h.hl.pushes, by rw [pushes_len]; have := h.len; omega, fun x hx => (inss_mem hx).elim (h.key x) (hk x)⟩
theorem Ls.pop {hs L : List Item} {k : Nat} (h : Ls hs L k) : Ls (popL hs) L.tail (k + 1) :=
  ⟨h.hl.pop, by rw [h.hl.pop.len, List.length_tail, ← h.hl.len]; have := h.len; omega, fun x hx => h.key x (List.mem_of_mem_tail hx)⟩
theorem Ls.pops {hs L : List Item} {k j : Nat} (h : Ls hs L k) : Ls (pops j hs) (L.drop j) (k + 1) :=
  ⟨h.hl.pops, by rw [h.hl.pops.len, List.length_drop, ← h.hl.len]; have := h.len; omega, fun x hx => h.key x (List.mem_of_mem_drop hx)⟩
theorem Ls.stay {hs L : List Item} {k : Nat} (h : Ls hs L k) : Ls hs L (k + 1) := ⟨h.hl, Nat.le_trans h.len (by omega), h.key⟩
theorem tw_all {p : Item → Bool} : ∀ {L : List Item}, (∀ x ∈ L, p x = true) → L.takeWhile p = L
  | [], _ => rfl
  | x :: L, h => by rw [List.takeWhile_cons, if_pos (h x (by simp)), tw_all (fun y hy => h y (List.mem_cons_of_mem _ hy))]
theorem Ls.all {hs L : List Item} {k : Nat} (h : Ls hs L k) : tk 9223372036854775807 hs.length hs = L := by
  rw [h.hl.tk _ (Nat.le_refl _), tw_all]
  intro x hx
  have := h.key x hx
  simp [upK, this]
theorem Ls.lim {hs L : List Item} {k : Nat} (h : Ls hs L k) (hk : k ≤ 601) : hs.length ≤ 500000 ∧ L.length ≤ 500000 := by have := h.len; have := h.hl.len; omega
theorem box4 {W : World} {B : Nat} {a b c d : Value} {t : TypeId} (h : W.heap[B]? = some (.cells #[a, b, c, d] t (0, 0))) : W.cell? ⟨B, 0, none⟩ = some a ∧ W.cell? ⟨B, 1, none⟩ = some b ∧ W.cell? ⟨B, 2, none⟩ = some c ∧ W.cell? ⟨B, 3, none⟩ = some d := by
  simp [World.cell?, h]
/-- copied to a row of its own -/
theorem over_fr {w W W' : World} {S T : Nat → Prop} {B R : Nat} {hs L : List Item} {base : Nat} {n c : Nat} {p : Option Addr} {ys : List Value} (h : Two w W S T B R hs L) (ho : W.ownsRow base 40 2 (.slice p n c) n ys) (hb : w.heap.size ≤ base) (hd : ∀ q, (Value.slice p n c).ownBlock = some q → ¬ S q ∧ ¬ T q) (hf : Fr (fun q => (Value.slice p n c).ownBlock = some q) W W') : Two w W' S T B R hs L :=
  h.fr hf (fun q e => ⟨(hd q e).1, (hd q e).2, Nat.le_trans hb (ho.lt q e).1⟩)
open Go.RowKit in
theorem taken_both (S : Nat → Prop) (B : Nat) (v : Value) (hs L : List Item) (key : Int) (r : Nat) (w : World) (h : HeapAt S w B v hs) (hn : hs.length ≤ 1000000) (hm : r ≤ 1000) (hl : HL hs L) :
    Calls Try.prog 17 #[.pointer (some ⟨B, 0, none⟩), .int .i64 key, .int .i64 r] w fun e w' => ∃ u, e = .returned u ∧ Rdr w' 2 u ((L.takeWhile (upK key)).take r).length (icells ((L.takeWhile (upK key)).take r)) ∧
      HeapNow S B (pops ((L.takeWhile (upK key)).take r).length hs) w' ∧ Fr S w w' ∧ (∀ q, u.ownBlock = some q → w.heap.size ≤ q) := by
  by_cases h0 : r = 0
  · subst h0
    refine (taken_no B key _ w (by decide)).mono ?_
    rintro e w' ⟨rfl, hg⟩
    rw [List.take_zero]
    exact ⟨_, rfl, rdr_of_owns (World.ownsRow_nil w' 0 40 2), ⟨v, h.g hg⟩, hg.fr S, fun q hq => by cases hq⟩
  · refine (taken_any S B v hs key r w h hn (by omega) hm).mono ?_
    rw [hl.tk key (Nat.le_refl _)]
    rintro e w' ⟨u, rfl, hown, hnow, hf⟩
    exact ⟨u, rfl, rdr_of_owns hown, hnow, hf, fun q hq => (hown.lt q hq).1⟩
end Go.Proofs.Ythdeehpnlcpbnaa
