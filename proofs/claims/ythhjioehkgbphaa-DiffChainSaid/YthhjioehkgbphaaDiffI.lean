/- what is new, what is gone: the walk -/
import Derived.Test.YthhjioehkgbphaaDiffH
namespace Go.Proofs.Ythhjioehkgbphaa
set_option linter.unusedVariables false
set_option linter.unusedSimpArgs false
open Go.RowKit Go.Shelf
attribute [local go_sem] Oper.semAt_some

/-- v is a slice of rows, all in the blocks of S, which lie from base on -/
def OwnS (base : Nat) (S : Nat → Prop) (W : World) (v : Value) (ls : List (List Val)) : Prop :=
  (∀ k, S k → base ≤ k ∧ k < W.heap.size) ∧ ∃ rv : List Value, W.ownsRow base 22 1 v ls.length rv ∧ (∀ g, v.ownBlock = some g → S g) ∧
    ∀ (i : Nat) (l : List Val), ls[i]? = some l → ∃ x, rv[i]? = some x ∧ RdrV W x l ∧ ∀ g, x.ownBlock = some g → S g ∧ v.ownBlock ≠ some g
theorem OwnS.nil (base : Nat) (W : World) : OwnS base (fun _ => False) W (.slice none 0 0) [] := ⟨fun _ h => h.elim, [], World.ownsRow_nil _ _ _ _, fun g h => (by cases h), by simp⟩
theorem OwnS.own {base : Nat} {S : Nat → Prop} {W : World} {v : Value} {ls : List (List Val)} (h : OwnS base S W v ls) : OwnRV base W v ls := by
  obtain ⟨h1, rv, h2, h3, h4⟩ := h
  refine ⟨rv, h2, fun i l hl => ?_⟩
  obtain ⟨x, a, b, c⟩ := h4 i l hl
  exact ⟨x, a, b, fun g hg => ⟨(h1 g (c g hg).1).1, (h1 g (c g hg).1).2, (c g hg).2⟩⟩
theorem OwnS.fr {T : Nat → Prop} {base : Nat} {S : Nat → Prop} {W W' : World} {v : Value} {ls : List (List Val)} (h : OwnS base S W v ls) (hf : Fr T W W') (hs : ∀ g, S g → ¬ T g) : OwnS base S W' v ls := by
  obtain ⟨h1, rv, h2, h3, h4⟩ := h
  refine ⟨fun k hk => ⟨(h1 k hk).1, Nat.lt_of_lt_of_le (h1 k hk).2 hf.size⟩, rv, hf.ownsRow h2 (fun g hg => hs g (h3 g hg)), h3, fun i l hl => ?_⟩
  obtain ⟨x, a, b, c⟩ := h4 i l hl
  exact ⟨x, a, Rdr.fr b hf (fun g hg => hs g (c g hg).1), c⟩
theorem OwnS.g {base : Nat} {S : Nat → Prop} {W W' : World} {v : Value} {ls : List (List Val)} (h : OwnS base S W v ls) (hg : G W W') : OwnS base S W' v ls := h.fr (hg.fr (fun _ => False)) (fun _ _ x => x)
/-- .. that the iterator does not turn -/
def FOwn (base : Nat) (S : Nat → Prop) (v : Value) (ls : List (List Val)) (Fo : Nat → Prop) (W : World) : Prop := (∀ k, S k → ¬ Fo k) ∧ OwnS base S W v ls
theorem Stable.own (base : Nat) (S : Nat → Prop) (v : Value) (ls : List (List Val)) : Stable (FOwn base S v ls) := fun Fo Fo' W W' h a b c =>
  ⟨fun k hk hf => (b k hf).elim (h.1 k hk) (fun hf => absurd (h.2.1 k hk).2 (by omega)), h.2.fr c h.1⟩
/-- one row more -/
theorem OwnS.app {base : Nat} {S : Nat → Prop} {W W1 W2 : World} {v v' u : Value} {ls : List (List Val)} {l : List Val} {rv : List Value} {tmp : Obj} (hS : ∀ k, S k → base ≤ k ∧ k < W.heap.size) (hb : base ≤ W.heap.size)
    (h1 : W.ownsRow base 22 1 v ls.length rv) (hv : ∀ g, v.ownBlock = some g → S g)
    (h2 : ∀ (i : Nat) (l : List Val), ls[i]? = some l → ∃ x, rv[i]? = some x ∧ RdrV W x l ∧ ∀ g, x.ownBlock = some g → S g ∧ v.ownBlock ≠ some g)
    (hg : G W W1) (hu : RdrV W1 u l) (huo : ∀ g, u.ownBlock = some g → W.heap.size ≤ g ∧ g < W1.heap.size)
    (hown : W2.ownsRow base 22 1 v' (ls.length + 1) (rv ++ [u])) (hgrow : (W1.alloc tmp).grownBy W2 v.ownBlock) (hgb : ∀ g, v'.ownBlock = some g → v.ownBlock = some g ∨ (W1.alloc tmp).heap.size ≤ g) :
    OwnS base (fun k => S k ∨ (W.heap.size ≤ k ∧ k < W2.heap.size)) W2 v' (ls ++ [l]) ∧ Fr (fun q => v.ownBlock = some q) W W2 := by
  have hf1 : Fr (fun q => v.ownBlock = some q) W1 W2 := (((G.refl W1).alloc tmp).fr _).trans (grownBy_fr hgrow) (fun _ _ h => h)
  have hf : Fr (fun q => v.ownBlock = some q) W W2 := (hg.fr _).trans hf1 (fun _ _ h => h)
  have hl : rv.length = ls.length := by have := h1.1; omega
  have hsz := hg.size
  have hsz1 := hf1.size
  have hvlt : ∀ g, v.ownBlock = some g → g < W.heap.size := fun g h => (hS g (hv g h)).2
  refine ⟨⟨fun k hk => ?_, rv ++ [u], by rw [List.length_append]; exact hown, fun g h => ?_, fun i m hm => ?_⟩, hf⟩
  · rcases hk with hk | hk
    · have := hS k hk; exact ⟨this.1, by omega⟩
    · exact ⟨by omega, hk.2⟩
  · rcases hgb g h with h' | h'
    · exact .inl (hv g h')
    · refine .inr ⟨?_, (hown.lt g h).2⟩
      simp at h'; omega
  by_cases hi : i < ls.length
  · rw [List.getElem?_append_left hi] at hm
    obtain ⟨y, a, b, c⟩ := h2 i m hm
    refine ⟨y, by rw [List.getElem?_append_left (by omega)]; exact a, Rdr.fr b hf (fun g hg' e => (c g hg').2 e), fun g hg' => ⟨.inl (c g hg').1, fun e => ?_⟩⟩
    rcases hgb g e with h | h
    · exact (c g hg').2 h
    · have := (hS g (c g hg').1).2; simp at h; omega
  · have hi2 : i = ls.length := by
      have := (List.getElem?_eq_some_iff.1 hm).1
      simp at this; omega
    subst hi2
    simp at hm
    subst hm
    refine ⟨u, by rw [← hl]; simp, Rdr.fr hu hf1 (fun g hg' e => by have := hvlt g e; have := huo g hg'; omega), fun g hg' => ⟨.inr ⟨(huo g hg').1, by have := huo g hg'; omega⟩, fun e => ?_⟩⟩
    rcases hgb g e with h | h
    · have := hvlt g h; have := huo g hg'; omega
    · have := huo g hg'; simp at h; omega

/-- rows with their slices -/
theorem rdrE_of {W : World} {p : Option Addr} {n c : Nat} {ls : List (List Val)} (h : RdrRV W (.slice p n c) ls) (hc : n ≤ c) : ∃ es : List El, RdrE W (.slice p n c) es ∧ es.map (·.2) = ls := by
  obtain ⟨rv, hr, hx⟩ := h
  obtain ⟨hl, p', c', he, h2⟩ := hr
  cases he
  have hl' : rv.length = ls.length := by omega
  refine ⟨rv.zip ls, ⟨⟨p, c, by simp [hl'], by simp [hl']; exact hc, fun h0 => ?_⟩, fun e he => ?_⟩, ?_⟩
  · obtain ⟨b, o, hp, hcell⟩ := h2 (by simp [hl'] at h0; exact h0)
    refine ⟨b, o, hp, fun i e hi => hcell i _ ?_⟩
    rw [List.getElem?_zip_eq_some] at hi
    exact hi.1
  · obtain ⟨i, hi⟩ := List.getElem?_of_mem he
    rw [List.getElem?_zip_eq_some] at hi
    obtain ⟨x, a, b⟩ := hx i e.2 hi.2
    rw [hi.1] at a
    cases a
    exact b
  · rw [List.map_snd_zip]; omega
theorem noX_of {W : World} {v : Value} {es : List El} {X : Nat} (h : RdrE W v es) (hX : W.heap.size ≤ X) : NoX X v es := by
  obtain ⟨⟨p, c, rfl, hc, h3⟩, h4⟩ := h
  refine ⟨fun h0 e => ?_, fun e he h0 e2 => ?_⟩
  · obtain ⟨b, o, rfl, h6⟩ := h3 h0
    have hb := World.block_lt_of_cell? W _ (h6 0 es[0] (List.getElem?_eq_getElem h0))
    have : b = X := Option.some.inj e
    simp only at hb
    omega
  · have := Rdr.lt (h4 e he) h0 (by omega) X e2
    omega
/-- side by side, of rows alone -/
def mrgR : List (List Val) → List (List Val) → List (List Val × Bool × Bool)
  | [], [] => []
  | [], b :: bs => (b, false, true) :: mrgR [] bs
  | a :: as', [] => (a, true, false) :: mrgR as' []
  | a :: as', b :: bs => if rcmp a b < 0 then (a, true, false) :: mrgR as' (b :: bs) else if rcmp a b = 0 then (a, true, true) :: mrgR as' bs else (b, false, true) :: mrgR (a :: as') bs
  termination_by as' bs => as'.length + bs.length
theorem mrg_rows (xs ys : List El) : (mrg xs ys).map (fun x => (x.1.2, x.2)) = mrgR (xs.map (·.2)) (ys.map (·.2)) := by
  fun_induction mrg xs ys with
  | case1 => simp [mrgR]
  | case2 b bs ih => simp only [List.map_nil, List.map_cons] at ih ⊢; rw [mrgR, ih]
  | case3 a as' ih => simp only [List.map_nil, List.map_cons] at ih ⊢; rw [mrgR, ih]
  | case4 a as' b bs h ih => simp only [List.map_cons] at ih ⊢; rw [mrgR, if_pos h, ih]
  | case5 a as' b bs h h' ih => simp only [List.map_cons] at ih ⊢; rw [mrgR, if_neg h, if_pos h', ih]
  | case6 a as' b bs h h' ih => simp only [List.map_cons] at ih ⊢; rw [mrgR, if_neg h, if_neg h', ih]
/-- what is new, what is gone -/
def pls (l : List (List Val × Bool × Bool)) : List (List Val) := (l.filter fun x => !x.2.1 && x.2.2).map (·.1)
def mns (l : List (List Val × Bool × Bool)) : List (List Val) := (l.filter fun x => x.2.1 && !x.2.2).map (·.1)
def rws (l : List (El × Bool × Bool)) : List (List Val × Bool × Bool) := l.map fun x => (x.1.2, x.2)
theorem rws_len (l : List (El × Bool × Bool)) : (rws l).length = l.length := by simp [rws]
theorem pls_snoc (l : List (El × Bool × Bool)) (x : El × Bool × Bool) : pls (rws (l ++ [x])) = pls (rws l) ++ (if (!x.2.1 && x.2.2) = true then [x.1.2] else []) := by
  unfold pls rws
  rw [List.map_append, List.filter_append, List.map_append]
  congr 1
  cases h : (!x.2.1 && x.2.2) <;> simp [h]
theorem mns_snoc (l : List (El × Bool × Bool)) (x : El × Bool × Bool) : mns (rws (l ++ [x])) = mns (rws l) ++ (if (x.2.1 && !x.2.2) = true then [x.1.2] else []) := by
  unfold mns rws
  rw [List.map_append, List.filter_append, List.map_append]
  congr 1
  cases h : (x.2.1 && !x.2.2) <;> simp [h]
theorem pls_len (l : List (List Val × Bool × Bool)) : (pls l).length ≤ l.length := by unfold pls; rw [List.length_map]; exact List.length_filter_le _ _
theorem mns_len (l : List (List Val × Bool × Bool)) : (mns l).length ≤ l.length := by unfold mns; rw [List.length_map]; exact List.length_filter_le _ _
theorem mrgR_len (xs ys : List (List Val)) : (mrgR xs ys).length ≤ xs.length + ys.length := by
  fun_induction mrgR xs ys <;> simp only [List.length_nil, List.length_cons] at * <;> omega
theorem mrg_mem (xs ys : List El) : ∀ x ∈ mrg xs ys, x.1 ∈ xs ∨ x.1 ∈ ys := by
  fun_induction mrg xs ys with
  | case1 => simp
  | case2 b bs ih => intro x hx; rcases List.mem_cons.1 hx with rfl | h
                     · simp
                     · rcases ih x h with h | h <;> simp [h]
  | case3 a as' ih => intro x hx; rcases List.mem_cons.1 hx with rfl | h
                      · simp
                      · rcases ih x h with h | h <;> simp [h]
  | case4 a as' b bs h ih => intro x hx; rcases List.mem_cons.1 hx with rfl | h
                             · simp
                             · rcases ih x h with h | h
                               · simp [h]
                               · exact .inr h
  | case5 a as' b bs h h' ih => intro x hx; rcases List.mem_cons.1 hx with rfl | h
                                · simp
                                · rcases ih x h with h | h <;> simp [h]
  | case6 a as' b bs h h' ih => intro x hx; rcases List.mem_cons.1 hx with rfl | h
                                · simp
                                · rcases ih x h with h | h
                                  · exact .inl h
                                  · simp [h]
end Go.Proofs.Ythhjioehkgbphaa
