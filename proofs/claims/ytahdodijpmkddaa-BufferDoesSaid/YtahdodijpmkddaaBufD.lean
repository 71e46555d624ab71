/- laid together: BufTw BufC BufD -/
import Derived.Test.YtahdodijpmkddaaBufY
import Derived.Test.YtahdodijpmkddaaBufX
import Derived.Test.YtahdodijpmkddaaHeapH
import Derived.Test.YtahdodijpmkddaaBufL
import Derived.Test.YtahdodijpmkddaaBufN
set_option maxRecDepth 10000
namespace Go.Proofs.Ytahdodijpmkddaa
set_option linter.unusedVariables false
set_option linter.unusedSimpArgs false
open Go.RowKit Go.Shelf
attribute [local go_sem] Oper.semAt_some

structure BTwo (w W : World) (S P T : Nat → Prop) (B R : Nat) (s : List Out) : Prop where
  b : ∃ p, BufIn S P W B s p
  r : ∃ v L, RBuf T W R s v L
  new : ∀ k, S k ∨ P k ∨ T k → w.heap.size ≤ k
  st : ∀ k, S k ∨ P k → ¬ T k
  g : G w W
theorem BTwo.fr {w W W' : World} {S P T Z : Nat → Prop} {B R : Nat} {s : List Out} (h : BTwo w W S P T B R s) (hf : Fr Z W W') (hz : ∀ k, Z k → ¬ (S k ∨ P k ∨ T k)) (hn : ∀ k, Z k → w.heap.size ≤ k) : BTwo w W' S P T B R s := by
  obtain ⟨p, hb⟩ := h.b
  obtain ⟨v, L, hr⟩ := h.r
  exact ⟨⟨p, hb.fr hf (fun k hk hq => hz k hq (hk.elim .inl (fun e => .inr (.inl e))))⟩, ⟨v, L, hr.fr hf (fun k hk hq => hz k hq (.inr (.inr hk)))⟩, h.new, h.st, ((h.g.fr (fun q => w.heap.size ≤ q)).trans hf (fun q _ e => hn q e)).g (fun _ h => h)⟩
theorem BTwo.go {w W W' : World} {S P T : Nat → Prop} {B R : Nat} {s : List Out} (h : BTwo w W S P T B R s) (hg : G W W') : BTwo w W' S P T B R s := h.fr (hg.fr (fun _ => False)) (fun _ e => e.elim) (fun _ e => e.elim)
theorem BTwo.lt {w W : World} {S P T : Nat → Prop} {B R : Nat} {s : List Out} (h : BTwo w W S P T B R s) : ∀ k, S k ∨ P k ∨ T k → k < W.heap.size := fun k hk => by
  obtain ⟨p, hb⟩ := h.b
  obtain ⟨v, L, hr⟩ := h.r
  rcases hk with e | e | e
  · exact hb.lt k (.inl e)
  · exact hb.lt k (.inr e)
  · exact hr.lt k e
/-- both have turned, one behind the other -/
theorem BTwo.both {w W W1 W2 W3 : World} {S P T S' P' T' : Nat → Prop} {B R : Nat} {s s' : List Out} {p' : Bp} {v' : Value} {L' : List Edg} (h : BTwo w W S P T B R s) (hf : Fr S W W1) (hb : BufIn S' P' W1 B s' p') (hS : ∀ k, S' k → S k ∨ W.heap.size ≤ k) (hP : ∀ k, P' k → P k ∨ W.heap.size ≤ k)
    (h12 : G W1 W2) (hr : RBuf T' W3 R s' v' L') (hT : ∀ k, T' k → T k ∨ W2.heap.size ≤ k) (hf2 : Fr (fun q => q = R) W2 W3) : BTwo w W3 S' P' T' B R s' := by
  obtain ⟨v, L, h0⟩ := h.r
  have hlt := h0.lt
  have hw := h.g.size
  have h1 := hf.size
  have h2 := h12.size
  have hb2 := hb.g h12
  have hn : ∀ k, S' k ∨ P' k → w.heap.size ≤ k := fun k hk => by
    rcases hk with e | e
    · rcases hS k e with e | e
      · exact h.new k (.inl e)
      · omega
    · rcases hP k e with e | e
      · exact h.new k (.inr (.inl e))
      · omega
  have hno : ∀ k, S' k ∨ P' k → ¬ T k := fun k hk ht => by
    have h9 := hlt k ht
    rcases hk with e | e
    · rcases hS k e with e | e
      · exact h.st k (.inl e) ht
      · omega
    · rcases hP k e with e | e
      · exact h.st k (.inr e) ht
      · omega
  refine ⟨⟨p', hb2.fr hf2 (fun k hk e => hno k hk (by subst e; exact h0.tR))⟩, ⟨v', L', hr⟩, fun k hk => ?_, fun k hk ht => ?_, ?_⟩
  · rcases hk with e | e | e
    · exact hn k (.inl e)
    · exact hn k (.inr e)
    · rcases hT k e with e | e
      · exact h.new k (.inr (.inr e))
      · omega
  · rcases hT k ht with e | e
    · exact hno k hk e
    · have := hb2.lt k hk; omega
  · have hR := h.new R (.inr (.inr h0.tR))
    have a := (h.g.fr (fun q => w.heap.size ≤ q)).trans hf (fun q _ e => h.new q (.inl e))
    have b := a.trans (h12.fr (fun _ => False)) (fun _ _ e => e.elim)
    exact (b.trans hf2 (fun q _ e => by subst e; exact hR)).g (fun _ h => h)
/-- the copy is the new one; the old one is emptied -/
theorem BTwo.copy {w W W1 W2 : World} {S P T S2 : Nat → Prop} {B R B2 : Nat} {s : List Out} {p2 : Bp} (h : BTwo w W S P T B R s) (hb : BufIn S2 P W1 B2 s p2) (hS : ∀ k, S2 k → W.heap.size ≤ k) (h1 : G W W1) (hf : Fr S W1 W2) : BTwo w W2 S2 P T B2 R s := by
  obtain ⟨p, hb0⟩ := h.b
  obtain ⟨v, L, h0⟩ := h.r
  have hw := h.g.size
  refine ⟨⟨p2, hb.fr hf (fun k hk e => ?_)⟩, ⟨v, L, (h0.g h1).fr hf (fun k hk e => h.st k (.inl e) hk)⟩, fun k hk => ?_, fun k hk ht => ?_, ?_⟩
  · rcases hk with e2 | e2
    · have a := hb0.lt k (.inl e); have b := hS k e2; omega
    · exact hb0.sp k e e2
  · rcases hk with e | e
    · have := hS k e; omega
    · exact h.new k (.inr e)
  · rcases hk with e | e
    · have a := hS k e; have b := h0.lt k ht; omega
    · exact h.st k (.inr e) ht
  · exact (((h.g.trans h1).fr (fun q => w.heap.size ≤ q)).trans hf (fun q _ e => h.new q (.inl e))).g (fun _ h => h)
/-- how much lies in them -/
structure Few (s : List Out) (k : Nat) : Prop where
  n : s.length ≤ k
  ps : ∀ o ∈ s, o.2.2.2.2.length ≤ 200
theorem Few.nil : Few [] 0 := ⟨Nat.le_refl _, fun o h => by cases h⟩
theorem Few.drop {s : List Out} {k : Nat} (h : Few s k) (m : Nat) : Few (s.drop m) k := ⟨by rw [List.length_drop]; have := h.n; omega, fun o ho => h.ps o (List.mem_of_mem_drop ho)⟩
theorem Few.ins {s : List Out} {k : Nat} (h : Few s k) {o : Out} (ho : o.2.2.2.2.length ≤ 200) : Few (insO o s) (k + 1) := ⟨by rw [insO_len]; have := h.n; omega, fun x hx => (insO_mem.1 hx).elim (fun e => by subst e; exact ho) (h.ps x)⟩
theorem Few.up {s : List Out} {k m : Nat} (h : Few s k) (hm : k ≤ m) : Few s m := ⟨Nat.le_trans h.n hm, h.ps⟩
theorem RBuf.nil {W : World} : RBuf (fun k => k = W.heap.size) (W.alloc (.cells #[.slice none 0 0] 30)) W.heap.size [] (.slice none 0 0) [] := by
  refine ⟨alloc_new W _, Rdr.nil _ _ _ _, (fun E hE => by cases hE), fun k => rfl, List.Pairwise.nil, rfl, rfl, (fun g hg => by cases hg), (fun g hg => by cases hg), (fun E hE => by cases hE), fun k hk => ?_⟩
  rw [World.size_alloc]; omega
theorem BTwo.nil {w w1 : World} {S : Nat → Prop} {B : Nat} {p : Bp} (hb : BufIn S (fun _ => False) w1 B [] p) (hS : ∀ k, S k → w.heap.size ≤ k) (hg : G w w1) : BTwo w (w1.alloc (.cells #[.slice none 0 0] 30)) S (fun _ => False) (fun k => k = w1.heap.size) B w1.heap.size [] := by
  have ha : G w1 (w1.alloc (.cells #[.slice none 0 0] 30)) := (G.refl w1).alloc _
  refine ⟨⟨p, hb.g ha⟩, ⟨_, _, RBuf.nil⟩, fun k hk => ?_, fun k hk ht => ?_, hg.trans ha⟩
  · rcases hk with e | e | e
    · exact hS k e
    · exact e.elim
    · have := hg.size; omega
  · have := hb.lt k hk; omega
theorem cells8 {W : World} {R : Nat} {ty : TypeId} {v0 v1 v2 v3 v4 v5 v6 v7 : Value} (h : W.heap[R]? = some (.cells #[v0, v1, v2, v3, v4, v5, v6, v7] ty (0, 0))) :
    W.cell? ⟨R, 0, none⟩ = some v0 ∧ W.cell? ⟨R, 1, none⟩ = some v1 ∧ W.cell? ⟨R, 2, none⟩ = some v2 ∧ W.cell? ⟨R, 3, none⟩ = some v3 ∧ W.cell? ⟨R, 4, none⟩ = some v4 ∧ W.cell? ⟨R, 5, none⟩ = some v5 ∧ W.cell? ⟨R, 6, none⟩ = some v6 ∧ W.cell? ⟨R, 7, none⟩ = some v7 := by
  refine ⟨?_, ?_, ?_, ?_, ?_, ?_, ?_, ?_⟩ <;> (unfold World.cell?; simp [h])
/-- what Put answers, and what then lies there -/
def putCode (E : Edg) (s : List Out) : Int := if checkE E = 0 then (if hasO (okey (outE E)) s = true then 9 else 0) else checkE E
def putRow (E : Edg) (s : List Out) : List Out := if checkE E = 0 then (if hasO (okey (outE E)) s = true then s else insO (outE E) s) else s
theorem Few.put {s : List Out} {k : Nat} (h : Few s k) (E : Edg) (hE : E.ps.length ≤ 200) : Few (putRow E s) (k + 1) := by
  unfold putRow
  split
  · split
    · exact h.up (by omega)
    · exact h.ins hE
  · exact h.up (by omega)
theorem put_told (S P : Nat → Prop) (B : Nat) (s : List Out) (p : Bp) (E : Edg) (w : World) (h : BufIn S P w B s p) (hE : EdgAt w E) (ht : InR E.tm) (hn : s.length ≤ 100000) (hnp : E.ps.length ≤ 1000000) (hES : ∀ g, E.v.ownBlock = some g → ¬ S g) :
    Calls Try.prog 14 #[.pointer (some ⟨B, 0, none⟩), ev E] w fun e w' => e = .returned (.int .i64 (putCode E s)) ∧ ∃ S' P' p', BufIn S' P' w' B (putRow E s) p' ∧ (∀ k, S' k → S k ∨ w.heap.size ≤ k) ∧ (∀ k, P' k → P k ∨ w.heap.size ≤ k) ∧ Fr S w w' := by
  refine (bput_any S P B s p E w h hE ht hn hnp hES).mono ?_
  rintro e w' (⟨h1, rfl, hg⟩ | ⟨h1, h2, rfl, hg⟩ | ⟨h1, h2, rfl, S', P', p', hb, h3, h4, -, hf⟩)
  · exact ⟨by rw [putCode, if_neg h1], S, P, p, by rw [putRow, if_neg h1]; exact h.g hg, fun k e => .inl e, fun k e => .inl e, hg.fr _⟩
  · exact ⟨by rw [putCode, if_pos h1, if_pos h2], S, P, p, by rw [putRow, if_pos h1, if_pos h2]; exact h.g hg, fun k e => .inl e, fun k e => .inl e, hg.fr _⟩
  · exact ⟨by rw [putCode, if_pos h1, if_neg (by rw [h2]; simp)], S', P', p', by rw [putRow, if_pos h1, if_neg (by rw [h2]; simp)]; exact hb, h3, h4, hf⟩
theorem rput_told (T : Nat → Prop) (R : Nat) (s : List Out) (v : Value) (L : List Edg) (E : Edg) (w : World) (h : RBuf T w R s v L) (hE : EdgAt w E) (hn : s.length ≤ 100000) (hnp : E.ps.length ≤ 1000000) :
    Calls Try.prog 15 #[.pointer (some ⟨R, 0, none⟩), ev E] w fun e w' => e = .returned (.int .i64 (putCode E s)) ∧ ∃ v' L' T', RBuf T' w' R (putRow E s) v' L' ∧ (∀ k, T' k → T k ∨ w.heap.size ≤ k) ∧ Fr (fun q => q = R) w w' := by
  refine (rput_any' T R s v L E w h hE hn hnp).mono ?_
  rintro e w' (⟨h1, rfl, hg⟩ | ⟨h1, h2, rfl, hg⟩ | ⟨h1, h2, rfl, v', L', T', hb, h3, hf⟩)
  · exact ⟨by rw [putCode, if_neg h1], v, L, T, by rw [putRow, if_neg h1]; exact h.g hg, fun k e => .inl e, hg.fr _⟩
  · exact ⟨by rw [putCode, if_pos h1, if_pos h2], v, L, T, by rw [putRow, if_pos h1, if_pos h2]; exact h.g hg, fun k e => .inl e, hg.fr _⟩
  · exact ⟨by rw [putCode, if_pos h1, if_neg (by rw [h2]; simp)], v', L', T', by rw [putRow, if_pos h1, if_neg (by rw [h2]; simp)]; exact hb, h3, hf⟩
theorem lup_nat (S P : Nat → Prop) (B : Nat) (s : List Out) (p : Bp) (key : Int) (m : Nat) (w : World) (h : BufIn S P w B s p) (hn : s.length ≤ 100000) (hps : ∀ o ∈ s, o.2.2.2.2.length ≤ 1000000) :
    Calls Try.prog 8 #[.pointer (some ⟨B, 0, none⟩), .int .i64 key, .int .i64 m] w (LUpOut S P B s key m w) := by
  by_cases hm : 1 ≤ m
  · exact lupto_any S P B s p key m w h hn hps hm
  · obtain rfl : m = 0 := by omega
    exact lupto_no S P B s p key _ w h (by omega)
theorem lup_int (S P : Nat → Prop) (B : Nat) (s : List Out) (p : Bp) (key m : Int) (w : World) (h : BufIn S P w B s p) (hn : s.length ≤ 100000) (hps : ∀ o ∈ s, o.2.2.2.2.length ≤ 1000000) :
    Calls Try.prog 8 #[.pointer (some ⟨B, 0, none⟩), .int .i64 key, .int .i64 m] w fun e w' => ∃ u, e = .returned u ∧ Fr S w w' := by
  by_cases hm : 1 ≤ m
  · obtain ⟨n, rfl⟩ : ∃ n : Nat, m = n := ⟨m.toNat, by omega⟩
    exact (lupto_any S P B s p key n w h hn hps (by omega)).mono fun e w' ⟨u, L, h1, _, _, _, _, _, h2⟩ => ⟨u, h1, h2⟩
  · exact (lupto_no S P B s p key m w h (by omega)).mono fun e w' ⟨u, L, h1, _, _, _, _, _, h2⟩ => ⟨u, h1, h2⟩
theorem room_lent {W : World} {base : Nat} {u : Value} {E : Edg} (h : LentP W base u E) : Room W base 86 4 (lentE E u).v E.ps.length := by
  obtain ⟨g, cap, h1, h2⟩ := h
  rcases room_of h2 with ⟨h3, -⟩ | ⟨g', c, cur, h3, h4, h5, h6, h7, h8⟩
  · cases h3
  · cases h3
    exact .inr ⟨g, cap, cur, h1, h4, h5, h6, by omega, h8⟩
end Go.Proofs.Ytahdodijpmkddaa

set_option maxRecDepth 10000
namespace Go.Proofs.Ytahdodijpmkddaa
set_option linter.unusedVariables false
set_option linter.unusedSimpArgs false
open Go.RowKit Go.Shelf
attribute [local go_sem] Oper.semAt_some

theorem rowV_of_owns {W : World} {base : Nat} {v : Value} {L : List Edg} (h : W.ownsRow base 33 5 v L.length (ecs L)) (hE : ∀ E ∈ L, IsE E) (hn : 0 < L.length) : ∃ g c, v = .slice (some ⟨g, 0, none⟩) L.length c ∧ RowAt W g 0 L.length c L ∧ base ≤ g := by
  have h0 := h
  rcases h.2 with ⟨he, -⟩ | ⟨g, cap, cur, he, hb, -⟩
  · rw [he] at h0
    have h1 := h0.1
    rw [ecs_len] at h1
    obtain ⟨p, c, e⟩ := ownsRow_shape h0
    have := (Value.slice.inj e).2.1
    omega
  · subst he
    exact ⟨g, cap, rfl, rowAt_of_owns h0 hE, hb⟩
/-- the copy under way -/
structure CIn (S P : Nat → Prop) (w : World) (B : Nat) (s : List Out) (p : Bp) (B2 M2 H2 r z0 : Nat) (v2 : Value) (SH2 : Nat → Prop) (seen : List Int) (cnt : Nat) (m2 : Int → Value) (ks2 : List Int) (W : World) : Prop where
  rng : Rng W p.M r p.m p.ks seen cnt
  old : BufIn S P W B s p
  map2 : MapS W M2 m2 ks2
  rows : ∀ t, RowV W (m2 t) (if t ∈ seen then p.R t else [])
  mem : ∀ t, t ∈ ks2 ↔ t ∈ seen
  blk : ∀ t g, (m2 t).ownBlock = some g → z0 ≤ g
  apart : ∀ t u g, (m2 t).ownBlock = some g → (m2 u).ownBlock = some g → t = u
  box2 : W.heap[B2]? = some (.cells #[.pointer (some ⟨H2, 0, none⟩), .map (some M2)] 56 (0, 0))
  hat2 : HeapAt SH2 W H2 v2 p.hs
  g : G w W
theorem CIn.step {S P : Nat → Prop} {w : World} {B : Nat} {s : List Out} {p : Bp} {B2 M2 H2 r z0 : Nat} {v2 : Value} {SH2 : Nat → Prop} {seen : List Int} {cnt cnt' : Nat} {m2 : Int → Value} {ks2 : List Int} {W W1 W2 W3 : World} {t : Int} {g c : Nat}
    (h : CIn S P w B s p B2 M2 H2 r z0 v2 SH2 seen cnt m2 ks2 W) (hr : w.heap.size ≤ r ∧ r < z0) (hz : z0 ≤ W.heap.size) (hrS : ¬ SH2 r) (hrB : r ≠ B2) (hrM : r ≠ M2) (hMz : M2 < z0) (hBz : B2 < z0) (hMB : M2 ≠ B2) (hMS : ¬ SH2 M2) (hMw : w.heap.size ≤ M2) (hPS : ∀ k, S k ∨ P k → k < w.heap.size) (hf1 : Fr (fun q => q = r) W W1) (hrng : Rng W1 p.M r p.m p.ks (seen ++ [t]) cnt')
    (hg2 : G W1 W2) (hra : RowAt W2 g 0 (p.R t).length c (p.R t)) (hgn : W1.heap.size ≤ g) (hm3 : MapS W3 M2 (mset m2 t (.slice (some ⟨g, 0, none⟩) (p.R t).length c)) (kset ks2 t)) (hf3 : Fr (fun q => q = M2) W2 W3) :
    CIn S P w B s p B2 M2 H2 r z0 v2 SH2 (seen ++ [t]) cnt' (mset m2 t (.slice (some ⟨g, 0, none⟩) (p.R t).length c)) (kset ks2 t) W3 := by
  have z1 := hf1.size
  have z2 := hg2.size
  have hz1 := h.g.size
  have hPM := hPS p.M (.inl h.old.sM)
  have hf13 : Fr (fun q => q = r ∨ q = M2) W W3 := ((hf1.mono (fun _ e => .inl e)).trans (hg2.fr (fun q => q = r ∨ q = M2)) (fun _ _ h => h)).trans (T := fun q => q = r ∨ q = M2) (hf3.mono (fun _ e => .inr e)) (fun _ _ h => h)
  have hrl := hrng.lt
  refine ⟨(hrng.fr (hg2.fr (fun _ => False)) (fun h => h) (fun h => h)).fr hf3 (fun e => ?_) (fun e => hrM e), ?_, hm3, fun u => ?_, fun u => ?_, fun u q hq => ?_, fun a b q ha hb => ?_, ?_, ?_, ?_⟩
  · obtain ⟨D, left, hgg, -⟩ := h.rng
    have h2 := hPM
    have e2 : p.M = M2 := e
    omega
  · exact h.old.fr hf13 (fun k hk e => by have h2 := hPS k hk; rcases e with e | e <;> omega)
  · by_cases hu : u = t
    · subst hu
      rw [mset_same, if_pos (by simp)]
      exact .inr ⟨g, 0, c, rfl, hra.fr hf3 (fun e => by have e2 : g = M2 := e; omega)⟩
    · rw [mset_ne _ _ hu]
      have he : (if u ∈ seen ++ [t] then p.R u else []) = (if u ∈ seen then p.R u else []) := by simp [hu]
      rw [he]
      exact (h.rows u).fr hf13 (fun q hq e => by have h1 := h.blk u q hq; rcases e with e | e <;> omega)
  · rw [kset_mem, h.mem]; simp; exact Or.comm
  · by_cases hu : u = t
    · rw [hu, mset_same] at hq; have e3 : g = q := (by cases hq; rfl); omega
    · rw [mset_ne _ _ hu] at hq; exact h.blk u q hq
  · by_cases h1 : a = t
    · by_cases h2 : b = t
      · rw [h1, h2]
      · exfalso
        rw [h1, mset_same] at ha; rw [mset_ne _ _ h2] at hb
        have h4 := (h.rows b).lt hb
        have e3 : g = q := (by cases ha; rfl)
        omega
    · by_cases h2 : b = t
      · exfalso
        rw [h2, mset_same] at hb; rw [mset_ne _ _ h1] at ha
        have h4 := (h.rows a).lt ha
        have e3 : g = q := (by cases hb; rfl)
        omega
      · rw [mset_ne _ _ h1] at ha; rw [mset_ne _ _ h2] at hb; exact h.apart a b q ha hb
  · exact (hf13.block B2 (heap_lt h.box2) (fun e => by rcases e with e | e <;> omega)).trans h.box2
  · exact h.hat2.fr hf13 (fun k hk e => by
      rcases e with e | e
      · exact hrS (by rw [← e]; exact hk)
      · exact hMS (by rw [← e]; exact hk))
  · exact ((h.g.fr (fun q => w.heap.size ≤ q)).trans hf13 (fun q _ e => by rcases e with e | e <;> omega)).g (fun _ h => h)
theorem copy_fin {S P : Nat → Prop} {w : World} {B : Nat} {s : List Out} {p : Bp} {B2 M2 H2 r z0 : Nat} {v2 : Value} {SH2 : Nat → Prop} {seen : List Int} {cnt : Nat} {m2 : Int → Value} {ks2 : List Int} {W : World}
    (h : CIn S P w B s p B2 M2 H2 r z0 v2 SH2 seen cnt m2 ks2 W) (hall : ∀ t ∈ p.ks, t ∈ seen) (hSH2 : ∀ k, SH2 k → w.heap.size ≤ k) (hPS : ∀ k, S k ∨ P k → k < w.heap.size) (hM : w.heap.size ≤ M2) (hB : w.heap.size ≤ B2) (hB2 : ¬ SH2 B2) (hM2 : ¬ SH2 M2) (hMz : M2 < z0) (hBz : B2 < z0) (hSz : ∀ k, SH2 k → k < z0) :
    ∃ S2 p2, BufIn S2 P W B2 s p2 ∧ ∀ k, S2 k → w.heap.size ≤ k := by
  have hiff : ∀ t, t ∈ seen ↔ t ∈ p.ks := fun t => ⟨fun ht => by
    obtain ⟨D, left, -, -, -, -, h5⟩ := h.rng
    exact h5 t ht, hall t⟩
  have hz0 : w.heap.size ≤ z0 := by omega
  refine ⟨fun k => SH2 k ∨ k = M2 ∨ k = B2 ∨ ∃ t, (m2 t).ownBlock = some k, ⟨H2, M2, v2, p.hs, p.L, SH2, m2, ks2, p.R⟩, ⟨h.box2, h.hat2, ?_, h.map2, fun t => ?_, h.old.out, fun t => ?_, h.old.str, h.old.props, h.apart, .inr (.inr (.inl rfl)), .inr (.inl rfl), fun k hk => .inl hk, fun t g hg => .inr (.inr (.inr ⟨t, hg⟩)), hB2, hM2, fun t g hg hc => ?_, h.old.rng, fun k hk hc => ?_, fun k hk => ?_⟩, fun k hk => ?_⟩
  · obtain ⟨a, b, c, d⟩ := h.old.hk
    exact ⟨a, b, c, fun t => by rw [d, h.mem, hiff]⟩
  · have h1 := h.rows t
    by_cases ht : t ∈ seen
    · rw [if_pos ht] at h1; exact h1
    · rw [if_neg ht] at h1
      have h2 : p.R t = [] := by
        have h3 := h.old.out t
        rw [gr_nil.2 (fun hc => ht ((hiff t).2 ((h.old.keys t).2 hc)))] at h3
        simpa using h3
      show RowV W (m2 t) (p.R t)
      rw [h2]; exact h1
  · show t ∈ ks2 ↔ _
    rw [h.mem, hiff, h.old.keys]
  · have h1 := h.blk t g hg
    have h2 := hSz g hc
    omega
  · have h2 := hPS k (.inr hc)
    rcases hk with e | e | e | ⟨t, e⟩
    · have := hSH2 k e; omega
    · omega
    · omega
    · have := h.blk t k e; omega
  · rcases hk with (e | e | e | ⟨t, e⟩) | e
    · exact h.hat2.lt k e
    · rw [e]; exact h.map2.lt
    · rw [e]; exact heap_lt h.box2
    · exact (h.rows t).lt e
    · exact h.old.lt k (.inr e)
  · rcases hk with e | e | e | ⟨t, e⟩
    · exact hSH2 k e
    · omega
    · omega
    · have := h.blk t k e; omega
set_option maxHeartbeats 8000000 in
theorem bcopy_any (S P : Nat → Prop) (B : Nat) (s : List Out) (p : Bp) (w : World) (h : BufIn S P w B s p) (hn : s.length ≤ 100000) :
    Calls Try.prog 12 #[.pointer (some ⟨B, 0, none⟩)] w fun e w' => ∃ B2 S2 p2, e = .returned (.pointer (some ⟨B2, 0, none⟩)) ∧ BufIn S2 P w' B2 s p2 ∧ (∀ k, S2 k → w.heap.size ≤ k) ∧ G w w' := by
  have HH := Lib.hid h
  obtain ⟨bc0, bc1⟩ := box2b h
  have HCP := Lib.hid (copy_any p.SH p.H p.v p.hs w h.hat (by have := h.hlen; omega))
  clear h
  go_enter Try.func12, Try.ntmps12
  go_wp2_with fail
  refine (bmade_any bc1).mono ?_
  rintro e w' ⟨rfl, rfl⟩
  go_wp2_with fail
  refine HCP.out.mono ?_
  rintro e w1 ⟨H2, rfl, ⟨v2, SH2, hat2, hSH2⟩, hg1⟩
  have bc0 := hg1.cell bc0
  have bc1 := hg1.cell bc1
  have hmk : (Instr.makeMap 54 none).run Try.prog w1 = .ok (.map (some w1.heap.size)) (w1.alloc (.map #[] 0)) := by
    simp [Instr.makeMap, run_underlying Try.underlying54]
  have gA : G w1 ((w1.alloc (.map #[] 0)).alloc (.cells #[.pointer (some ⟨H2, 0, none⟩), .map (some w1.heap.size)] 56)) := ((G.refl _).alloc _).alloc _
  have hbx := alloc_new (w1.alloc (.map #[] 0)) (.cells #[.pointer (some ⟨H2, 0, none⟩), .map (some w1.heap.size)] 56)
  have hmp : MapS ((w1.alloc (.map #[] 0)).alloc (.cells #[.pointer (some ⟨H2, 0, none⟩), .map (some w1.heap.size)] 56)) w1.heap.size (fun _ => NOR) [] := (MapS.made w1).g ((G.refl _).alloc _)
  have hzA : ((w1.alloc (.map #[] 0)).alloc (.cells #[.pointer (some ⟨H2, 0, none⟩), .map (some w1.heap.size)] 56)).heap.size = w1.heap.size + 2 := by simp
  rw [World.size_alloc] at hbx
  have bc1A := gA.cell bc1
  obtain ⟨WA, hWA⟩ : ∃ X, X = (w1.alloc (.map #[] 0)).alloc (.cells #[.pointer (some ⟨H2, 0, none⟩), .map (some w1.heap.size)] 56) := ⟨_, rfl⟩
  rw [← hWA] at gA hbx hmp hzA bc1A
  have hgwA := hg1.trans gA
  obtain ⟨WB, hrB, hrg, hgB, hzB⟩ := (HH.out.g hgwA).map.range
  have HWA := Lib.hid hWA
  have hSl : ∀ k, S k ∨ P k → k < w.heap.size := HH.out.lt
  have hz1 := hg1.size
  have hSz : ∀ k, SH2 k → k < w1.heap.size := hat2.lt
  have HC0 : Hid (CIn S P w B s p (w1.heap.size + 1) w1.heap.size H2 (w1.heap.size + 2) (w1.heap.size + 3) v2 SH2 [] p.ks.length (fun _ => NOR) [] WB) := Lib.hid
    ⟨by rw [← hzA]; exact hrg, HH.out.g (hgwA.trans hgB), hmp.g hgB, fun t => .inl ⟨rfl, rfl⟩, fun t => Iff.rfl, fun t g hg => (by cases hg), fun t u g hg => (by cases hg), (hgB.block (by omega)).trans hbx, (hat2.g gA).g hgB, hgwA.trans hgB⟩
  rw [hzA] at hrB
  have hzB2 : WB.heap.size = w1.heap.size + 3 := by omega
  have HSZ := Lib.hid hSz
  have HSL := Lib.hid hSl
  have HSH2 := Lib.hid hSH2
  clear hrg hgB hmp hbx hat2 gA hSH2 HCP hSz hSl hWA
  go_upto_region 4 with fail
  rw [← HWA.out]
  clear bc0 bc1 hmk
  go_wp2_with fail
  clear hrB bc1A
  go_loopw [4] (fun _ wr => ∃ (seen : List Int) (cnt : Nat) (m2 : Int → Value) (ks2 : List Int), Hid (CIn S P w B s p (w1.heap.size + 1) w1.heap.size H2 (w1.heap.size + 2) (w1.heap.size + 3) v2 SH2 seen cnt m2 ks2 wr) ∧ w1.heap.size + 3 ≤ wr.heap.size) (fun _ wr => wr.rangeLeft p.M (w1.heap.size + 2))
  case atStart => exact ⟨[], _, _, [], HC0, by omega⟩
  case round =>
    clear HC0
    obtain ⟨seen, cnt, m2, ks2, HC, hszr⟩ := hrel
    rcases HC.out.rng.next 0 with ⟨h0, hall, hrun⟩ | ⟨t, W1, cnt', hmem, hns, hrun, -, hrng', hlt, hf, hen⟩
    · have HE := Lib.hid (copy_fin HC.out hall HSH2.out HSL.out (by omega) (by omega) (fun hc => by have := HSZ.out _ hc; omega) (fun hc => by have := HSZ.out _ hc; omega) (by omega) (by omega) (fun k hk => by have := HSZ.out k hk; omega))
      have hgE := HC.out.g
      clear HC h0 hall hszr hzB hzB2 hgwA hg1
      go_wp2_with fail
      go_ret
      obtain ⟨S2, p2, hb2, hS2⟩ := HE.out
      exact ⟨_, S2, p2, rfl, hb2, hS2, hgE⟩
    · obtain ⟨q, c, hq⟩ := (HH.out.rows t).shape
      have HQ := Lib.hid hq
      rw [hq] at hrun hen
      have htr : InR t := HH.out.map.keys t hmem
      have HRG := Lib.hid htr
      have hpos : 0 < (p.R t).length := by
        have h1 := (HH.out.keys t).1 hmem
        cases hc : p.R t with
        | nil =>
          exfalso
          have h2 := HH.out.out t
          rw [hc] at h2
          exact gr_nil.1 h2.symm h1
        | cons a l => simp
      have HPOS := Lib.hid hpos
      have hz2f := hf.size
      have hgw1 : G w W1 := ((HC.out.g.fr (fun q => w.heap.size ≤ q)).trans hf (fun q _ e => by have e2 : q = w1.heap.size + 2 := e; omega)).g (fun _ h => h)
      have HRD := Lib.hid (show Rdr W1 5 (.slice q (p.R t).length c) (p.R t).length (ecs (p.R t)) by rw [← hq]; exact ((HH.out.g hgw1).rows t).rdr)
      have HIE := Lib.hid (HH.out.rows t).isE
      have hnl : (p.R t).length ≤ 100000 := by have := HH.out.lenle t; omega
      have hB2 := (hf.block (w1.heap.size + 1) (by omega) (by omega)).trans HC.out.box2
      have cB : W1.cell? ⟨w1.heap.size + 1, 1, none⟩ = some (.map (some w1.heap.size)) := by simp [World.cell?, hB2]
      have hmap1 := HC.out.map2.fr hf (by omega)
      have hks2 : ks2.length ≤ 100000 := by
        have h1 := nodup_len (m := p.ks) HC.out.map2.nd (fun x hx => by
          obtain ⟨D, left, -, -, -, -, h5⟩ := HC.out.rng
          exact h5 x ((HC.out.mem x).1 hx))
        have h2 := HH.out.klen
        omega
      have HF := Lib.hid hf
      have HRN := Lib.hid hrng'
      have HMP := Lib.hid hmap1
      have HLT := Lib.hid (show W1.rangeLeft p.M (w1.heap.size + 2) < wr.rangeLeft p.M (w1.heap.size + 2) by rw [hrng'.left_eq, HC.out.rng.left_eq]; exact hlt)
      obtain ⟨n, hn1⟩ : ∃ n, n = (p.R t).length := ⟨_, rfl⟩
      rw [← hn1] at hrun hen HRD hnl hpos
      have HN1 := Lib.hid hn1
      clear hq htr hf hrng' hmap1 hB2 hmem hns hlt hn1 hgw1
      go_upto_region 7 with fail
      obtain ⟨WD, hWD⟩ : ∃ WD : World, WD = W1.drew := ⟨_, rfl⟩
      have hsD : G W1 WD := by rw [hWD]; exact (G.refl W1).drew
      refine region_hlW (fun w' => G W1 w') 7 8 (by kernel_rfl) rfl ?_
      intro Q0 HQ0
      simp only [List.replicate_succ, List.replicate_zero]
      rw [← hWD]
      clear hWD
      refine hl_take_np 0 (by kernel_rfl) (by kernel_rfl) rfl (by kernel_rfl) hsD (v := ?_) ?_ ?_
      rotate_left
      · (rintro x hx; have k_cB := hx.cell cB; clear hx; go_simp; try rfl)
      simp only [Act.put, List.setIfInBounds_toArray, List.set_cons_zero, List.set_cons_succ]
      refine hl_take_np 1 (by kernel_rfl) (by kernel_rfl) rfl (by kernel_rfl) hsD (v := ?_) ?_ ?_
      rotate_left
      · (rintro x hx; have k_cB := hx.cell cB; clear hx; go_simp; try rfl)
      simp only [Act.put, List.setIfInBounds_toArray, List.set_cons_zero, List.set_cons_succ]
      refine hl_take_np 2 (by kernel_rfl) (by kernel_rfl) rfl (by kernel_rfl) hsD (v := ?_) ?_ ?_
      rotate_left
      · (rintro x hx; have k_cB := hx.cell cB; clear hx; go_simp; try rfl)
      simp only [Act.put, List.setIfInBounds_toArray, List.set_cons_zero, List.set_cons_succ]
      refine hl_take_np 3 (by kernel_rfl) (by kernel_rfl) rfl (by kernel_rfl) hsD (v := ?_) ?_ ?_
      rotate_left
      · (rintro x hx; have k_cB := hx.cell cB; clear hx; go_simp; try rfl)
      simp only [Act.put, List.setIfInBounds_toArray, List.set_cons_zero, List.set_cons_succ]
      refine hl_take_np 4 (by kernel_rfl) (by kernel_rfl) rfl (by kernel_rfl) hsD (v := ?_) ?_ ?_
      rotate_left
      · (rintro x hx; have k_cB := hx.cell cB; clear hx; go_simp; try rfl)
      simp only [Act.put, List.setIfInBounds_toArray, List.set_cons_zero, List.set_cons_succ]
      refine hl_take_np 5 (by kernel_rfl) (by kernel_rfl) rfl (by kernel_rfl) hsD (v := ?_) ?_ ?_
      rotate_left
      · (rintro x hx; have k_cB := hx.cell cB; clear hx; go_simp; try rfl)
      simp only [Act.put, List.setIfInBounds_toArray, List.set_cons_zero, List.set_cons_succ]
      refine hl_stepW 6 (by kernel_rfl) rfl (by kernel_rfl) ?_
      intro K hK
      go_simp
      refine (cloneE_any (p.R t) (.slice q n c) WD (by have := HRD.out.g hsD; rw [HN1.out] at this ⊢; exact this) (by have := HN1.out; omega) HIE.out).mono ?_
      rintro e W2 ⟨u, rfl, hown, hga⟩
      have hs2 : G W1 W2 := hsD.trans hga
      refine hK _ _ (fun _ => hs2) ?_
      clear hK K cB
      simp only [Act.put, List.setIfInBounds_toArray, List.set_cons_zero, List.set_cons_succ]
      obtain ⟨g, uc, hu, hra, hgb⟩ := rowV_of_owns hown HIE.out HPOS.out
      subst hu
      have hgn : W1.heap.size ≤ g := by have := hsD.size; omega
      obtain ⟨W3, hr3, hm3, hf3⟩ := (HMP.out.g hs2).store (t := t) HRG.out (by unfold maxLen; omega) (some ⟨g, 0, none⟩) (p.R t).length uc
      have HNX := Lib.hid (HC.out.step ⟨by omega, by omega⟩ hszr (fun hc => by have := HSZ.out _ hc; omega) (by omega) (by omega) (by omega) (by omega) (by omega) (fun hc => by have := HSZ.out _ hc; omega) (by omega) HSL.out HF.out HRN.out hs2 hra hgn hm3 hf3)
      have hzE : w1.heap.size + 3 ≤ W3.heap.size := by have h1 := hs2.size; have h2 := hf3.size; omega
      have HLT3 := Lib.hid (show W3.rangeLeft p.M (w1.heap.size + 2) < wr.rangeLeft p.M (w1.heap.size + 2) by
        have h1 := HNX.out.rng.left_eq
        rw [h1, ← HRN.out.left_eq]; exact HLT.out)
      clear hown hra hm3 hf3 hga
      refine hl_stepW 7 (by kernel_rfl) rfl (by kernel_rfl) ?_
      intro K hK
      go_simp
      refine hK _ _ (fun h => absurd rfl h) ?_
      clear hK K
      simp only [Act.put, List.setIfInBounds_toArray, List.set_cons_zero, List.set_cons_succ]
      refine hl_done (by kernel_rfl) ?_ _
      refine NoPanic.normal (HQ0.out _ _ ?_)
      clear HQ0
      clear hsD hs2
      go_wp2_with fail
      go_roundw
      case rel => exact ⟨_, _, _, _, HNX, hzE⟩
      case measure => exact HLT3.out
end Go.Proofs.Ytahdodijpmkddaa

set_option maxRecDepth 10000
namespace Go.Proofs.Ytahdodijpmkddaa
set_option linter.unusedVariables false
set_option linter.unusedSimpArgs false
open Go.RowKit Go.Shelf
attribute [local go_sem] Oper.semAt_some

set_option maxRecDepth 100000 in
set_option maxHeartbeats 16000000 in
theorem bdoes_any (ds : List Dg) (v : Value) (w : World) (h : RdrG w v ds) (hn : ds.length ≤ 4398046511104) :
    Calls Try.prog 3 #[v] w fun e w' => e = .returned (.bool true) ∧ G w w' := by
  have HSZ := Lib.hid (gsize_any ds v w h hn)
  obtain ⟨vp, vc, rfl⟩ := h.shape
  obtain ⟨m, hmm⟩ : ∃ m, m = ds.length := ⟨_, rfl⟩
  have HV : Hid (Rdr w 8 (.slice vp m vc) m (gcells ds)) := Lib.hid (by rw [hmm]; exact h.row)
  have HEV := Lib.hid h.each
  rw [← hmm] at HSZ hn ⊢
  have HM := Lib.hid hmm
  clear hmm h
  go_enter Try.func3, Try.ntmps3
  go_wp2_with fail
  refine HSZ.out.mono ?_
  rintro e w1 ⟨n, rfl, hnb, hrs, rfl⟩
  by_cases hbig : (n : Int) ≤ 200
  · have HRS := Lib.hid (hrs (by omega))
    have hm2 : m ≤ 200 := by have := HRS.out.1; have := HM.out; omega
    clear HSZ hrs hnb
    go_wp2_with fail
    refine (bnew_any w).mono ?_
    rintro e w1 ⟨B0, S0, p0, rfl, hb0, hS0, hg0⟩
    have HI0 := Lib.hid (BTwo.nil hb0 hS0 hg0)
    clear hb0 hS0 hg0
    go_upto_region 5 with fail
    generalize (w1.alloc (.cells #[.slice none 0 0] 30)) = wn at HI0 ⊢
    generalize w1.heap.size = R at HI0 ⊢
    generalize hP0 : (fun _ : Nat => False) = P0 at HI0
    generalize hT0 : (fun k : Nat => k = R) = T0 at HI0
    clear hP0 hT0
    go_wp2_with fail
    go_loopw [3, 5] (fun bv i wr => ∃ (k : Nat) (B : Nat) (S P T : Nat → Prop) (s : List Out), k ≤ m ∧ i = .int .i64 k ∧ bv = .pointer (some ⟨B, 0, none⟩) ∧ Hid (BTwo w wr S P T B R s) ∧ Hid (Few s k)) (fun _ i _ => m - (intOf i).toNat)
    case atStart => exact ⟨0, B0, S0, P0, T0, [], by omega, rfl, rfl, HI0, Lib.hid Few.nil⟩
    case round =>
      clear HI0 S0 P0 T0
      obtain ⟨k, B, S, P, T, s, hk, rfl, rfl, HI, HF⟩ := hrel
      by_cases hlt : k < m
      · skip
        obtain ⟨d, hdk⟩ : ∃ d, ds[k]? = some d := ⟨ds[k]'(by have := HM.out; omega), List.getElem?_eq_getElem _⟩
        obtain ⟨b, o, hvp, c0, c1, c2, c3, c4, c5, c6, c7⟩ := RdrG.at HV.out HM.out hdk
        subst hvp
        have hdm := List.mem_of_getElem? hdk
        have HDE := Lib.hid (HEV.out d hdm)
        have HDN : Hid (d.E.ps.length ≤ 200) := Lib.hid (HRS.out.2 d hdm)
        have hgwr := HI.out.g
        have c0 := hgwr.cell c0
        have c1 := hgwr.cell c1
        have c2 := hgwr.cell c2
        have c3 := hgwr.cell c3
        have c4 := hgwr.cell c4
        have c5 := hgwr.cell c5
        have c6 := hgwr.cell c6
        have c7 := hgwr.cell c7
        obtain ⟨what, dn, dsome, E⟩ := d
        simp only at c0 c1 c2 c3 c4 c5 c6 c7 HDE HDN
        obtain ⟨q, nps, ec, hev⟩ := id HDE.out.1.isE
        have HEV1 : Hid (ev E = .agg #[.string E.f, .string E.t, .string E.l, .int .i64 E.tm, .slice q nps ec]) := Lib.hid (by unfold ev; rw [hev])
        have HVE := Lib.hid hev
        rw [hev] at c7
        have HLEN : ∀ u, ev (lentE E u) = .agg #[.string E.f, .string E.t, .string E.l, .int .i64 E.tm, u] := fun u => rfl
        have HLEN := Lib.hid HLEN
        have HCK : ∀ u, checkE (lentE E u) = checkE E := fun u => rfl
        have HCK := Lib.hid HCK
        have hkn : (k : Int) < (m : Int) := by omega
        have hk0 : (0 : Int) ≤ (k : Int) := by omega
        generalize E.f = ef at c3 HEV1 HLEN
        generalize E.t = et at c4 HEV1 HLEN
        generalize E.l = el at c5 HEV1 HLEN
        generalize E.tm = em at c6 HEV1 HLEN
        clear hdk hdm hev
        have hgx : G wr (wr.alloc (.cells #[.int .i64 what, .int .i64 dn, .int .i64 dsome, .string ef, .string et, .string el, .int .i64 em, .slice q nps ec] 35)) := (G.refl wr).alloc _
        have hbx : (wr.alloc (.cells #[.int .i64 what, .int .i64 dn, .int .i64 dsome, .string ef, .string et, .string el, .int .i64 em, .slice q nps ec] 35)).heap[wr.heap.size]? = some (.cells #[.int .i64 what, .int .i64 dn, .int .i64 dsome, .string ef, .string et, .string el, .int .i64 em, .slice q nps ec] 35 (0, 0)) := alloc_new wr _
        go_upto_region 9 with fail
        have hxz : wr.heap.size < (wr.alloc (.cells #[.int .i64 what, .int .i64 dn, .int .i64 dsome, .string ef, .string et, .string el, .int .i64 em, .slice q nps ec] 35)).heap.size := by simp
        generalize (wr.alloc (.cells #[.int .i64 what, .int .i64 dn, .int .i64 dsome, .string ef, .string et, .string el, .int .i64 em, .slice q nps ec] 35)) = wx at hgx hbx hxz ⊢
        have HIx := Lib.hid (HI.out.go hgx)
        have hXn : ¬ (S wr.heap.size ∨ P wr.heap.size ∨ T wr.heap.size) := fun h => by have := HI.out.lt _ h; omega
        have hXw := HI.out.g.size
        obtain ⟨X, hX⟩ : ∃ X, X = wr.heap.size := ⟨_, rfl⟩
        rw [← hX] at hbx hxz hXn hXw ⊢
        obtain ⟨b0, b1, b2, b3, b4, b5, b6, b7⟩ := cells8 hbx
        have HBX := Lib.hid hbx
        clear hX c0 c1 c2 c3 c4 c5 c6 c7 hbx hgwr HI
        go_wp2_with fail
        refine (pick_any what 6 _ (by omega) (by omega)).mono ?_
        rintro e w7 ⟨⟨r, hr6, rfl⟩, rfl⟩
        obtain ⟨ri, hri⟩ : ∃ ri : Int, ri = (r : Int) := ⟨_, rfl⟩
        rw [← hri] at hr6 ⊢
        have hri0 : 0 ≤ ri := by omega
        clear hri
        by_cases hr4 : ri = 4
        · subst hr4
          obtain ⟨pB, hbB⟩ := HIx.out.b
          obtain ⟨vR, LR, hrR⟩ := HIx.out.r
          have HRX : Hid (X ≠ R) := Lib.hid (fun e => hXn (.inr (.inr (by rw [e]; exact hrR.tR))))
          have HHB := Lib.hid hbB
          have HHR := Lib.hid hrR
          have HXN := Lib.hid hXn
          clear hbB hrR hXn
          go_wp2_with fail
          refine (pick_any dsome 5 _ (by omega) (by omega)).mono ?_
          rintro e w8 ⟨⟨r5, hr5, rfl⟩, rfl⟩
          have HUP := Lib.hid (lup_nat S P B s pB dn r5 wx HHB.out (by have := HF.out.n; omega) (fun o ho => by have := HF.out.ps o ho; omega))
          go_wp2_with fail
          refine HUP.out.mono ?_
          rintro e w1x ⟨u, L1, rfl, hown, hmo, hL, -, ⟨p1, hb1⟩, hf1⟩
          obtain ⟨pl, cl, rfl⟩ := ownsRow_shape hown
          have hX1 := (hf1.block X hxz (fun e => HXN.out (.inl e))).trans HBX.out
          obtain ⟨b0, b1, b2, b3, b4, b5, b6, b7⟩ := cells8 hX1
          have HX1 := Lib.hid hX1
          have HRU := Lib.hid (rupto_any22 T R s vR LR dn r5 w1x (HHR.out.fr hf1 (fun k hk e => HIx.out.st k (.inl e) hk)) (by have := HF.out.n; omega) (fun o ho => by have := HF.out.ps o ho; omega) (by omega))
          have HOW := Lib.hid hown
          have HMO := Lib.hid hmo
          have HL := Lib.hid hL
          have HB1 := Lib.hid hb1
          have HF1 := Lib.hid hf1
          have hz1 := hf1.size
          clear hown hmo hL hb1 hf1 hX1 HUP
          go_wp2_with fail
          refine HRU.out.mono ?_
          rintro e w2x ⟨u2, M, v2, L2, T2, rfl, hrd, hmo2, hr2, hT2, hf2⟩
          have hz2 := hf2.size
          have HI2 := Lib.hid (HIx.out.both HF1.out HB1.out (fun k h => .inl h) (fun k h => .inl h) (G.refl w1x) hr2 hT2 hf2)
          have hRlt := HHR.out.lt R HHR.out.tR
          have HO2 : Hid (w2x.ownsRow wx.heap.size 33 5 (.slice pl L1.length cl) L1.length (ecs L1)) := Lib.hid (hf2.ownsRow HOW.out (fun g hg e => by have := (HOW.out.lt g hg).1; omega))
          have HE2 : Hid (∀ F ∈ L1, OwnE w2x wx.heap.size F) := Lib.hid (fun F hF => (HL.out F hF).fr hf2 (fun g hg e => by have := ((HL.out F hF).own.lt g hg).1; omega))
          have HLL : Hid (L1.length ≤ 200) := Lib.hid (by
            have h1 : (L1.map outE).length = ((tw dn s).take r5).length := by rw [HMO.out]
            rw [List.length_map, List.length_take] at h1
            omega)
          have HML : Hid (M.length ≤ 200) := Lib.hid (by
            have h1 : (M.map outE).length = ((tw dn s).take r5).length := by rw [hmo2]
            rw [List.length_map, List.length_take] at h1
            omega)
          have HSE : Hid (Calls Try.prog 9 #[.slice pl L1.length cl, u2] w2x fun e w' => e = .returned (.bool true) ∧ G w2x w') := Lib.hid (by
            have := sameEs_any L1 M _ _ w2x ⟨rdr_of_owns HO2.out, fun F hF => (HE2.out F hF).at⟩ hrd (by have := HLL.out; omega) (by have := HML.out; omega)
            rw [sameL_refl (HMO.out.trans hmo2.symm)] at this
            exact this)
          have HT2 := Lib.hid hT2
          have HX2 := Lib.hid ((hf2.block X (by omega) HRX.out).trans HX1.out)
          have HPS : Hid (∀ F ∈ L1, F.ps.length ≤ 200) := Lib.hid (fun F hF => HF.out.ps (outE F) (by
            have h1 : outE F ∈ L1.map outE := List.mem_map.2 ⟨F, hF, rfl⟩
            rw [HMO.out] at h1
            exact (List.takeWhile_sublist _).mem (List.mem_of_mem_take h1)))
          clear hrd hmo2 hr2 hT2 hf2 HRU
          go_wp2_with fail
          refine HSE.out.mono ?_
          rintro e w3x ⟨rfl, hg3⟩
          have HI3 := Lib.hid (HI2.out.go hg3)
          have hX3 := (hg3.block (heap_lt HX2.out)).trans HX2.out
          obtain ⟨b0, b1, b2, b3, b4, b5, b6, b7⟩ := cells8 hX3
          have HX3 := Lib.hid hX3
          have HOV := Lib.hid (overEsZ_any (fun q => wx.heap.size ≤ q ∧ q < w1x.heap.size) L1 _ _ wx.heap.size w3x (fun g hg => HOW.out.lt g hg) (fun F hF g hg => (HL.out F hF).own.lt g hg) (hg3.ownsRow HO2.out) (fun F hF => ⟨F.ps.length, by have := HPS.out F hF; omega, room_of ((HE2.out F hF).g hg3).own⟩) (by have := HLL.out; omega))
          have HG3 := Lib.hid hg3
          clear hg3 hX3 HSE
          go_wp2_with fail
          refine HOV.out.mono ?_
          rintro e w4x ⟨⟨u4, rfl⟩, hf4, -⟩
          have HI9 := Lib.hid (HI3.out.fr hf4 (fun q hq h => by
            rcases h with e | e | e
            · have := HIx.out.lt q (.inl e); omega
            · have := HIx.out.lt q (.inr (.inl e)); omega
            · rcases HT2.out q e with e | e
              · have := HIx.out.lt q (.inr (.inr e)); omega
              · omega) (fun q hq => by have := HIx.out.g.size; omega))
          have HX9 := Lib.hid ((hf4.block X (heap_lt HX3.out) (fun hq => by omega)).trans HX3.out)
          have HF9 := Lib.hid ((HF.out.drop (upN dn r5 s)).up (show k ≤ k + 1 by omega))
          generalize hs9 : s.drop (upN dn r5 s) = s9 at HI9 HF9
          clear hf4 HOV hs9

          obtain ⟨b0, b1, b2, b3, b4, b5, b6, b7⟩ := cells8 HX9.out
          have HSM9 : Hid (Calls Try.prog 18 #[.pointer (some ⟨B, 0, none⟩), .pointer (some ⟨R, 0, none⟩), .agg #[.string ef, .string et, .string el, .int .i64 em, .slice q nps ec]] w4x fun e w' => e = .returned (.bool true) ∧ G w4x w') := Lib.hid (by
            obtain ⟨p9, hb9⟩ := HI9.out.b
            obtain ⟨v9, L9, hr9⟩ := HI9.out.r
            rw [← HEV1.out]
            exact same_any S P T2 B R s9 p9 v9 L9 E w4x hb9 hr9 (HDE.out.1.g HI9.out.g) HDE.out.2 (by have := HF9.out.n; omega) (fun o ho => by have := HF9.out.ps o ho; omega))
          go_wp2_with fail
          refine HSM9.out.mono ?_
          rintro e Wz ⟨rfl, hgz⟩
          have HIz := Lib.hid (HI9.out.go hgz)
          go_wp2_with fail
          go_roundw
          case rel => exact ⟨k + 1, B, S, P, T2, s9, by omega, by go_num, rfl, HIz, HF9⟩
          case measure => simp [intOf]; omega
        · by_cases hr5 : ri = 5
          · subst hr5
            obtain ⟨pB, hbB⟩ := HIx.out.b
            have HHB := Lib.hid hbB
            have HXN := Lib.hid hXn
            have HBC := Lib.hid (bcopy_any S P B s pB wx hbB (by have := HF.out.n; omega))
            clear hbB hXn
            go_wp2_with fail
            refine HBC.out.mono ?_
            rintro e w1x ⟨B2, S2, p2, rfl, hb2, hS2, hg1⟩
            have hX1 := (hg1.block hxz).trans HBX.out
            obtain ⟨b0, b1, b2, b3, b4, b5, b6, b7⟩ := cells8 hX1
            have HX1 := Lib.hid hX1
            have HUP := Lib.hid (lup_int S P B s pB 1099511627776 dsome w1x (HHB.out.g hg1) (by have := HF.out.n; omega) (fun o ho => by have := HF.out.ps o ho; omega))
            have HB2 := Lib.hid hb2
            have HS2 := Lib.hid hS2
            have HG1 := Lib.hid hg1
            clear hb2 hS2 hg1 hX1 HBC
            go_wp2_with fail
            refine HUP.out.mono ?_
            rintro e w2x ⟨u, rfl, hf2⟩
            have HI9 := Lib.hid (HIx.out.copy HB2.out HS2.out HG1.out hf2)
            have HX9 := Lib.hid ((hf2.block X (heap_lt HX1.out) (fun e => HXN.out (.inl e))).trans HX1.out)
            have HF9 := Lib.hid (HF.out.up (show k ≤ k + 1 by omega))
            clear hf2 HUP

            obtain ⟨b0, b1, b2, b3, b4, b5, b6, b7⟩ := cells8 HX9.out
            have HSM9 : Hid (Calls Try.prog 18 #[.pointer (some ⟨B2, 0, none⟩), .pointer (some ⟨R, 0, none⟩), .agg #[.string ef, .string et, .string el, .int .i64 em, .slice q nps ec]] w2x fun e w' => e = .returned (.bool true) ∧ G w2x w') := Lib.hid (by
              obtain ⟨p9, hb9⟩ := HI9.out.b
              obtain ⟨v9, L9, hr9⟩ := HI9.out.r
              rw [← HEV1.out]
              exact same_any S2 P T B2 R s p9 v9 L9 E w2x hb9 hr9 (HDE.out.1.g HI9.out.g) HDE.out.2 (by have := HF9.out.n; omega) (fun o ho => by have := HF9.out.ps o ho; omega))
            go_wp2_with fail
            refine HSM9.out.mono ?_
            rintro e Wz ⟨rfl, hgz⟩
            have HIz := Lib.hid (HI9.out.go hgz)
            go_wp2_with fail
            go_roundw
            case rel => exact ⟨k + 1, B2, S2, P, T, s, by omega, by go_num, rfl, HIz, HF9⟩
            case measure => simp [intOf]; omega
          · skip
            obtain ⟨pB, hbB⟩ := HIx.out.b
            obtain ⟨vR, LR, hrR⟩ := HIx.out.r
            have HRX : Hid (X ≠ R) := Lib.hid (fun e => hXn (.inr (.inr (by rw [e]; exact hrR.tR))))
            have HHB := Lib.hid hbB
            have HHR := Lib.hid hrR
            have HXN := Lib.hid hXn
            have HLE := Lib.hid (lentE_any E wx (HDE.out.1.g HIx.out.g) (by have := HDN.out; omega))
            rw [HEV1.out] at HLE
            clear hbB hrR hXn
            go_wp2_with fail
            refine HLE.out.mono ?_
            rintro e w1x ⟨u, rfl, hlp, hg1⟩
            rw [HLEN.out u]
            obtain ⟨pu, cu, hu⟩ := hlp.slice
            have HEVL : Hid (ev (lentE E u) = .agg #[.string ef, .string et, .string el, .int .i64 em, .slice pu E.ps.length cu]) := Lib.hid (by rw [HLEN.out u, hu])
            have HLP := Lib.hid hlp
            rw [hu]
            obtain ⟨nn, hnn⟩ : ∃ nn, nn = E.ps.length := ⟨_, rfl⟩
            rw [← hnn] at HEVL ⊢
            have HG1 := Lib.hid hg1
            have hz1 := hg1.size
            have HULT := Lib.hid hlp.lt
            have hX1 := (hg1.block hxz).trans HBX.out
            have HUN := Lib.hid hu
            clear hlp hu hnn hg1 HLE
            have hgy : G w1x (w1x.alloc (.cells #[.string ef, .string et, .string el, .int .i64 em, .slice pu nn cu] 33)) := (G.refl w1x).alloc _
            have hby : (w1x.alloc (.cells #[.string ef, .string et, .string el, .int .i64 em, .slice pu nn cu] 33)).heap[w1x.heap.size]? = some (.cells #[.string ef, .string et, .string el, .int .i64 em, .slice pu nn cu] 33 (0, 0)) := alloc_new w1x _
            go_upto_region 11 with fail
            generalize (w1x.alloc (.cells #[.string ef, .string et, .string el, .int .i64 em, .slice pu nn cu] 33)) = W2 at hgy hby ⊢
            obtain ⟨Y, hY⟩ : ∃ Y, Y = w1x.heap.size := ⟨_, rfl⟩
            rw [← hY] at hby ⊢
            have hzy := hgy.size
            have HYN : Hid (¬ (S Y ∨ Y = R)) := Lib.hid (fun h => by
              rcases h with e | e
              · have := HIx.out.lt Y (.inl e); omega
              · have := HHR.out.lt R HHR.out.tR; omega)
            have HXN2 : Hid (¬ (S X ∨ X = R)) := Lib.hid (fun h => h.elim (fun e => HXN.out (.inl e)) HRX.out)
            have hX2 := (hgy.block (heap_lt hX1)).trans hX1
            have HIy := Lib.hid ((HIx.out.go HG1.out).go hgy)
            have hgxy : G wx W2 := HG1.out.trans hgy
            have HGXY := Lib.hid hgxy
            obtain ⟨b0, b1, b2, b3, b4, b5, b6, b7⟩ := cells8 hX2
            obtain ⟨d0, d1, d2, d3, d4⟩ := cells5 hby
            have HX2 := Lib.hid hX2
            have HY2 := Lib.hid hby
            have HLP2 := Lib.hid (HLP.out.g hgy)
            have hzxy := hgxy.size
            clear hgy hby hX1 hX2 hgxy hY HLP
            obtain ⟨WD, hWD⟩ : ∃ WD : World, WD = W2.drew := ⟨_, rfl⟩
            have hsG : G W2 WD := by rw [hWD]; exact (G.refl W2).drew
            have hsD : Fr (fun q => S q ∨ q = R) W2 WD := hsG.fr _
            refine region_hlW (fun w' => Fr (fun q => S q ∨ q = R) W2 w') 99 15 (by kernel_rfl) rfl ?_
            intro Q0 HQ0
            simp only [List.replicate_succ, List.replicate_zero]
            rw [← hWD]
            clear hWD
            have HPU := Lib.hid (put_told S P B s pB (lentE E u) WD ((HHB.out.g HGXY.out).g hsG) ((HLP2.out.at (HDE.out.1.g (HIx.out.g.trans HGXY.out))).g hsG) HDE.out.2 (by have := HF.out.n; omega) (by show E.ps.length ≤ _; have := HDN.out; omega) (fun g hg e => by have := (HULT.out g hg).1; have := HIx.out.lt g (.inl e); omega))
            rw [HEVL.out] at HPU
            rw [show putCode (lentE E u) s = putCode E s from rfl, show putRow (lentE E u) s = putRow E s from rfl] at HPU
            have HSG := Lib.hid hsG
            clear hsG
            refine hl_take_np 0 (by kernel_rfl) (by kernel_rfl) rfl (by kernel_rfl) hsD (v := ?_) ?_ ?_
            rotate_left
            · (rintro x hx; have kd0 := hx.cell HYN.out d0; have kd1 := hx.cell HYN.out d1; have kd2 := hx.cell HYN.out d2; have kd3 := hx.cell HYN.out d3; have kd4 := hx.cell HYN.out d4; have kb3 := hx.cell HXN2.out b3; have kb4 := hx.cell HXN2.out b4; have kb5 := hx.cell HXN2.out b5; have kb6 := hx.cell HXN2.out b6; have kb7 := hx.cell HXN2.out b7; clear hx; go_simp; try rfl)
            simp only [Act.put, List.setIfInBounds_toArray, List.set_cons_zero, List.set_cons_succ]
            refine hl_take_np 1 (by kernel_rfl) (by kernel_rfl) rfl (by kernel_rfl) hsD (v := ?_) ?_ ?_
            rotate_left
            · (rintro x hx; have kd0 := hx.cell HYN.out d0; have kd1 := hx.cell HYN.out d1; have kd2 := hx.cell HYN.out d2; have kd3 := hx.cell HYN.out d3; have kd4 := hx.cell HYN.out d4; have kb3 := hx.cell HXN2.out b3; have kb4 := hx.cell HXN2.out b4; have kb5 := hx.cell HXN2.out b5; have kb6 := hx.cell HXN2.out b6; have kb7 := hx.cell HXN2.out b7; clear hx; go_simp; try rfl)
            simp only [Act.put, List.setIfInBounds_toArray, List.set_cons_zero, List.set_cons_succ]
            refine hl_take_np 3 (by kernel_rfl) (by kernel_rfl) rfl (by kernel_rfl) hsD (v := ?_) ?_ ?_
            rotate_left
            · (rintro x hx; have kd0 := hx.cell HYN.out d0; have kd1 := hx.cell HYN.out d1; have kd2 := hx.cell HYN.out d2; have kd3 := hx.cell HYN.out d3; have kd4 := hx.cell HYN.out d4; have kb3 := hx.cell HXN2.out b3; have kb4 := hx.cell HXN2.out b4; have kb5 := hx.cell HXN2.out b5; have kb6 := hx.cell HXN2.out b6; have kb7 := hx.cell HXN2.out b7; clear hx; go_simp; try rfl)
            simp only [Act.put, List.setIfInBounds_toArray, List.set_cons_zero, List.set_cons_succ]
            refine hl_take_np 4 (by kernel_rfl) (by kernel_rfl) rfl (by kernel_rfl) hsD (v := ?_) ?_ ?_
            rotate_left
            · (rintro x hx; have kd0 := hx.cell HYN.out d0; have kd1 := hx.cell HYN.out d1; have kd2 := hx.cell HYN.out d2; have kd3 := hx.cell HYN.out d3; have kd4 := hx.cell HYN.out d4; have kb3 := hx.cell HXN2.out b3; have kb4 := hx.cell HXN2.out b4; have kb5 := hx.cell HXN2.out b5; have kb6 := hx.cell HXN2.out b6; have kb7 := hx.cell HXN2.out b7; clear hx; go_simp; try rfl)
            simp only [Act.put, List.setIfInBounds_toArray, List.set_cons_zero, List.set_cons_succ]
            refine hl_take_np 5 (by kernel_rfl) (by kernel_rfl) rfl (by kernel_rfl) hsD (v := ?_) ?_ ?_
            rotate_left
            · (rintro x hx; have kd0 := hx.cell HYN.out d0; have kd1 := hx.cell HYN.out d1; have kd2 := hx.cell HYN.out d2; have kd3 := hx.cell HYN.out d3; have kd4 := hx.cell HYN.out d4; have kb3 := hx.cell HXN2.out b3; have kb4 := hx.cell HXN2.out b4; have kb5 := hx.cell HXN2.out b5; have kb6 := hx.cell HXN2.out b6; have kb7 := hx.cell HXN2.out b7; clear hx; go_simp; try rfl)
            simp only [Act.put, List.setIfInBounds_toArray, List.set_cons_zero, List.set_cons_succ]
            refine hl_stepW 2 (by kernel_rfl) rfl (by kernel_rfl) ?_
            intro K hK
            go_simp
            refine HPU.out.mono ?_
            rintro e X1 ⟨rfl, S9, P9, p9, hb9, hS9, hP9, hf9⟩
            have hsX1 : Fr (fun q => S q ∨ q = R) W2 X1 := hsD.trans hf9 (fun q _ e => .inl e)
            refine hK _ _ (fun _ => hsX1) ?_
            clear hK K
            simp only [Act.put, List.setIfInBounds_toArray, List.set_cons_zero, List.set_cons_succ]
            have HB9 := Lib.hid hb9
            have HS9 := Lib.hid hS9
            have HP9 := Lib.hid hP9
            have HF1 := Lib.hid hf9
            have HRP := Lib.hid (rput_told T R s vR LR E X1 (((HHR.out.g HGXY.out).g HSG.out).fr hf9 (fun k hk e => HIx.out.st k (.inl e) hk)) (HDE.out.1.g (((((HIx.out.g.trans HGXY.out).trans HSG.out).fr (fun q => w.heap.size ≤ q)).trans hf9 (fun q _ e => HIx.out.new q (.inl e))).g (fun _ h => h))) (by have := HF.out.n; omega) (by have := HDN.out; omega))
            rw [HEV1.out] at HRP
            clear hb9 hS9 hP9 hf9
            refine hl_stepW 6 (by kernel_rfl) rfl (by kernel_rfl) ?_
            intro K hK
            go_simp
            refine HRP.out.mono ?_
            rintro e X2 ⟨rfl, v9, L9, T9, hr9, hT9, hf9⟩
            have hsX2 : Fr (fun q => S q ∨ q = R) W2 X2 := hsX1.trans hf9 (fun q _ e => .inr e)
            refine hK _ _ (fun _ => hsX2) ?_
            clear hK K
            simp only [Act.put, List.setIfInBounds_toArray, List.set_cons_zero, List.set_cons_succ]
            have HI5 := Lib.hid ((HIy.out.go HSG.out).both HF1.out HB9.out HS9.out HP9.out (G.refl X1) hr9 hT9 hf9)
            have HT9 := Lib.hid hT9
            have HKE := Lib.hid (keptE_yes E u (wx.heap.size + 2) X2 (HDE.out.1.g HI5.out.g) (by have := HDN.out; omega) (HLP2.out.fr hsX2 (fun g hg e => by
              have h1 := (HULT.out g hg).1
              rcases e with e | e
              · have := HIx.out.lt g (.inl e); omega
              · have := HHR.out.lt R HHR.out.tR; omega)))
            rw [HEVL.out, HEV1.out] at HKE
            generalize putCode E s = cc
            clear hr9 hT9 hf9
            refine hl_take_np 7 (by kernel_rfl) (by kernel_rfl) rfl (by kernel_rfl) hsX2 (v := ?_) ?_ ?_
            rotate_left
            · (rintro x hx; have kd0 := hx.cell HYN.out d0; have kd1 := hx.cell HYN.out d1; have kd2 := hx.cell HYN.out d2; have kd3 := hx.cell HYN.out d3; have kd4 := hx.cell HYN.out d4; have kb3 := hx.cell HXN2.out b3; have kb4 := hx.cell HXN2.out b4; have kb5 := hx.cell HXN2.out b5; have kb6 := hx.cell HXN2.out b6; have kb7 := hx.cell HXN2.out b7; clear hx; go_simp; try rfl)
            simp only [Act.put, List.setIfInBounds_toArray, List.set_cons_zero, List.set_cons_succ]
            refine hl_take_np 8 (by kernel_rfl) (by kernel_rfl) rfl (by kernel_rfl) hsX2 (v := ?_) ?_ ?_
            rotate_left
            · (rintro x hx; have kd0 := hx.cell HYN.out d0; have kd1 := hx.cell HYN.out d1; have kd2 := hx.cell HYN.out d2; have kd3 := hx.cell HYN.out d3; have kd4 := hx.cell HYN.out d4; have kb3 := hx.cell HXN2.out b3; have kb4 := hx.cell HXN2.out b4; have kb5 := hx.cell HXN2.out b5; have kb6 := hx.cell HXN2.out b6; have kb7 := hx.cell HXN2.out b7; clear hx; go_simp; try rfl)
            simp only [Act.put, List.setIfInBounds_toArray, List.set_cons_zero, List.set_cons_succ]
            refine hl_take_np 9 (by kernel_rfl) (by kernel_rfl) rfl (by kernel_rfl) hsX2 (v := ?_) ?_ ?_
            rotate_left
            · (rintro x hx; have kd0 := hx.cell HYN.out d0; have kd1 := hx.cell HYN.out d1; have kd2 := hx.cell HYN.out d2; have kd3 := hx.cell HYN.out d3; have kd4 := hx.cell HYN.out d4; have kb3 := hx.cell HXN2.out b3; have kb4 := hx.cell HXN2.out b4; have kb5 := hx.cell HXN2.out b5; have kb6 := hx.cell HXN2.out b6; have kb7 := hx.cell HXN2.out b7; clear hx; go_simp; try rfl)
            simp only [Act.put, List.setIfInBounds_toArray, List.set_cons_zero, List.set_cons_succ]
            refine hl_take_np 10 (by kernel_rfl) (by kernel_rfl) rfl (by kernel_rfl) hsX2 (v := ?_) ?_ ?_
            rotate_left
            · (rintro x hx; have kd0 := hx.cell HYN.out d0; have kd1 := hx.cell HYN.out d1; have kd2 := hx.cell HYN.out d2; have kd3 := hx.cell HYN.out d3; have kd4 := hx.cell HYN.out d4; have kb3 := hx.cell HXN2.out b3; have kb4 := hx.cell HXN2.out b4; have kb5 := hx.cell HXN2.out b5; have kb6 := hx.cell HXN2.out b6; have kb7 := hx.cell HXN2.out b7; clear hx; go_simp; try rfl)
            simp only [Act.put, List.setIfInBounds_toArray, List.set_cons_zero, List.set_cons_succ]
            refine hl_take_np 11 (by kernel_rfl) (by kernel_rfl) rfl (by kernel_rfl) hsX2 (v := ?_) ?_ ?_
            rotate_left
            · (rintro x hx; have kd0 := hx.cell HYN.out d0; have kd1 := hx.cell HYN.out d1; have kd2 := hx.cell HYN.out d2; have kd3 := hx.cell HYN.out d3; have kd4 := hx.cell HYN.out d4; have kb3 := hx.cell HXN2.out b3; have kb4 := hx.cell HXN2.out b4; have kb5 := hx.cell HXN2.out b5; have kb6 := hx.cell HXN2.out b6; have kb7 := hx.cell HXN2.out b7; clear hx; go_simp; try rfl)
            simp only [Act.put, List.setIfInBounds_toArray, List.set_cons_zero, List.set_cons_succ]
            refine hl_stepW 12 (by kernel_rfl) rfl (by kernel_rfl) ?_
            intro K hK
            go_simp
            refine HKE.out.mono ?_
            rintro e X3 ⟨rfl, hga⟩
            have hsX3 : Fr (fun q => S q ∨ q = R) W2 X3 := hsX2.trans (hga.fr (fun q => S q ∨ q = R)) (fun q _ e => e)
            refine hK _ _ (fun _ => hsX3) ?_
            clear hK K
            simp only [Act.put, List.setIfInBounds_toArray, List.set_cons_zero, List.set_cons_succ]
            refine hl_take_np 13 (by kernel_rfl) (by kernel_rfl) rfl (by kernel_rfl) hsX3 (v := ?_) ?_ ?_
            rotate_left
            · (rintro x hx; have kd0 := hx.cell HYN.out d0; have kd1 := hx.cell HYN.out d1; have kd2 := hx.cell HYN.out d2; have kd3 := hx.cell HYN.out d3; have kd4 := hx.cell HYN.out d4; have kb3 := hx.cell HXN2.out b3; have kb4 := hx.cell HXN2.out b4; have kb5 := hx.cell HXN2.out b5; have kb6 := hx.cell HXN2.out b6; have kb7 := hx.cell HXN2.out b7; clear hx; go_simp; try rfl)
            simp only [Act.put, List.setIfInBounds_toArray, List.set_cons_zero, List.set_cons_succ]
            refine hl_take_np 14 (by kernel_rfl) (by kernel_rfl) rfl (by kernel_rfl) hsX3 (v := ?_) ?_ ?_
            rotate_left
            · (rintro x hx; have kd0 := hx.cell HYN.out d0; have kd1 := hx.cell HYN.out d1; have kd2 := hx.cell HYN.out d2; have kd3 := hx.cell HYN.out d3; have kd4 := hx.cell HYN.out d4; have kb3 := hx.cell HXN2.out b3; have kb4 := hx.cell HXN2.out b4; have kb5 := hx.cell HXN2.out b5; have kb6 := hx.cell HXN2.out b6; have kb7 := hx.cell HXN2.out b7; clear hx; go_simp; try rfl)
            simp only [Act.put, List.setIfInBounds_toArray, List.set_cons_zero, List.set_cons_succ]
            refine hl_done (by kernel_rfl) ?_ _
            refine NoPanic.normal (HQ0.out _ _ ?_)
            clear HQ0
            have HI6 := Lib.hid (HI5.out.go hga)
            have hX3 := (hsX3.block X (heap_lt HX2.out) HXN2.out).trans HX2.out
            have HX3 := Lib.hid hX3
            have hY3 := (hsX3.block Y (heap_lt HY2.out) HYN.out).trans HY2.out
            obtain ⟨d0, d1, d2, d3, d4⟩ := cells5 hY3
            have HOV := Lib.hid (overE_any (lentE E u) E.ps.length (wx.heap.size + 2) X3 (room_lent (HLP2.out.fr hsX3 (fun g hg e => by
              have h1 := (HULT.out g hg).1
              rcases e with e | e
              · have := HIx.out.lt g (.inl e); omega
              · have := HHR.out.lt R HHR.out.tR; omega))) (by have := HDN.out; omega))
            rw [HEVL.out] at HOV
            have hzSG := HSG.out.size
            have hzF1 := HF1.out.size
            clear hsD hsX1 hsX2 hsX3 hga hX3 hY3
            go_wp2_with fail
            refine HOV.out.mono ?_
            rintro e W5 ⟨⟨u5, rfl⟩, hf5, -⟩
            have HI9 := Lib.hid (HI6.out.fr hf5 (fun g hg h => by
              have h1 := HULT.out g hg
              rcases h with e | e | e
              · rcases HS9.out g e with e | e
                · have := HIx.out.lt g (.inl e); omega
                · omega
              · rcases HP9.out g e with e | e
                · have := HIx.out.lt g (.inr (.inl e)); omega
                · omega
              · rcases HT9.out g e with e | e
                · have := HIx.out.lt g (.inr (.inr e)); omega
                · omega) (fun g hg => by have := HIx.out.g.size; have := (HULT.out g hg).1; omega))
            have HX9 := Lib.hid ((hf5.block X (heap_lt HX3.out) (fun hg => by have := (HULT.out X hg).1; omega)).trans HX3.out)
            have HF9 := Lib.hid (HF.out.put E HDN.out)
            generalize putRow E s = s9 at HI9 HF9
            clear hf5 HOV d0 d1 d2 d3 d4
            obtain ⟨b0, b1, b2, b3, b4, b5, b6, b7⟩ := cells8 HX9.out
            have HSM9 : Hid (Calls Try.prog 18 #[.pointer (some ⟨B, 0, none⟩), .pointer (some ⟨R, 0, none⟩), .agg #[.string ef, .string et, .string el, .int .i64 em, .slice q nps ec]] W5 fun e w' => e = .returned (.bool true) ∧ G W5 w') := Lib.hid (by
              obtain ⟨p9, hb9⟩ := HI9.out.b
              obtain ⟨v9, L9, hr9⟩ := HI9.out.r
              rw [← HEV1.out]
              exact same_any S9 P9 T9 B R s9 p9 v9 L9 E W5 hb9 hr9 (HDE.out.1.g HI9.out.g) HDE.out.2 (by have := HF9.out.n; omega) (fun o ho => by have := HF9.out.ps o ho; omega))
            go_wp2_with fail
            refine HSM9.out.mono ?_
            rintro e Wz ⟨rfl, hgz⟩
            have HIz := Lib.hid (HI9.out.go hgz)
            go_wp2_with fail
            go_roundw
            case rel => exact ⟨k + 1, B, S9, P9, T9, s9, by omega, by go_num, rfl, HIz, HF9⟩
            case measure => simp [intOf]; omega
      · have hdd : decide (k < m) = false := by simpa using hlt
        have hgw := HI.out.g
        go_wp2_with fail
        refine (bawake_any _).mono ?_
        rintro e w7 ⟨rfl, hg7⟩
        go_wp2_with fail
        go_ret
        exact ⟨rfl, hgw.trans hg7⟩
  · clear HSZ hrs
    go_wp2_with fail
    refine (bawake_any _).mono ?_
    rintro e w2 ⟨rfl, hg⟩
    go_wp2_with fail
    go_ret
    exact ⟨rfl, hg⟩
end Go.Proofs.Ytahdodijpmkddaa
