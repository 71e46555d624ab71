/- a book: texts with numbers -/
import Derived.Test.YtamhlflacnldfaaDoorNameA
import Derived.Maps.OwnIn
namespace Go.Proofs.YtamhlflacnldfaaDoor
set_option linter.unusedVariables false
open Go.RowKit Go.Shelf Go.Maps

theorem lawS : Keyed Tryd.prog 9 := string_keyed Tryd.underlying9
theorem zeroI (w : World) : (zeroValue 3).run Tryd.prog w = .ok (.int .i64 0) w := by kernel_rfl
def keyS (s : ByteArray) : Lit := .string s.data.toList
theorem keyS_of {s : ByteArray} (h : s.size ≤ maxLen) : keyOf Tryd.prog 9 (.string s) = some (keyS s)  := WideMaps.keyOf_string_mk Tryd.underlying9 h
theorem keyS_ne {a b : ByteArray} (h : a ≠ b) : keyS a ≠ keyS b := fun e => h (by
  simp only [keyS, Lit.string.injEq] at e
  cases a; cases b; congr 1; exact Array.ext' e)
/-- a text's number -/
def num (L : List ByteArray) (s : ByteArray) : Int := if inL s L = true then (L.findIdx (fun x => decide (x = s)) : Nat) else 0
/-- the map of the numbers -/
def Num (D : DataW Unit) (L : List ByteArray) : Prop := ∀ s, s.size ≤ maxLen → Maps.has D (keyS s) = inL s L ∧ D.atKey (keyS s) (.lit (.int .i64 0)) = .lit (.int .i64 (num L s))
theorem num_new {L : List ByteArray} {s : ByteArray} (h : inL s L = false) : num (L ++ [s]) s = L.length := by
  have hn : ∀ x ∈ L, decide (x = s) = false := fun x hx => by
    simp only [inL, List.any_eq_false, decide_eq_true_eq] at h
    simpa using h x hx
  rw [num, if_pos (inL_iff.2 (by simp)), List.findIdx_append]
  have : L.findIdx (fun x => decide (x = s)) = L.length := List.findIdx_eq_length.2 hn
  simp [this]
theorem inL_append (s x : ByteArray) (L : List ByteArray) : inL s (L ++ [x]) = (inL s L || decide (x = s)) := by simp [inL]
theorem num_old {L : List ByteArray} {s x : ByteArray} (h : x ≠ s) : num (L ++ [x]) s = num L s := by
  have e : inL s (L ++ [x]) = inL s L := by rw [inL_append]; simp [h]
  unfold num
  rw [e]
  by_cases hi : inL s L = true
  · rw [if_pos hi, if_pos hi, List.findIdx_append, if_pos]
    obtain ⟨j, hj, e⟩ := List.mem_iff_getElem.1 (inL_iff.1 hi)
    exact List.findIdx_lt_length_of_exists ⟨s, by rw [← e]; exact List.getElem_mem _, by simp⟩
  · rw [if_neg hi, if_neg hi]
theorem Num.put {D : DataW Unit} {L : List ByteArray} (h : Num D L) (hD : Maps.IsMap D) {s : ByteArray} (hs : s.size ≤ maxLen) (hn : inL s L = false) : Num (D.put (keyS s) (.lit (.int .i64 L.length))) (L ++ [s]) := by
  intro x hx
  have hk : WideAt.IsKeyLit (keyS s) := lawS.key (keyS_of hs)
  by_cases e : s = x
  · subst e
    exact ⟨by rw [Maps.has_put_same hD hk, inL_append]; simp, by rw [Maps.atKey_put_same hD hk, num_new hn]⟩
  · have hne := keyS_ne (fun h => e h.symm : x ≠ s)
    exact ⟨by rw [Maps.has_put_other hne, (h x hx).1, inL_append]; simp [e], by rw [Maps.atKey_put_other hne, (h x hx).2, num_old e]⟩
theorem Num.nil : Num (.map []) [] := fun s _ => ⟨rfl, rfl⟩

/-- the book at block B has the texts L; its blocks are among S -/
def Bk (S : Nat → Prop) (W : World) (B : Nat) (L : List ByteArray) : Prop :=
  ∃ bm v D base, W.heap[B]? = some (.cells #[.map (some bm), v] 38 (0, 0)) ∧ W.ownsMap Tryd.prog 9 (plainElem Tryd.prog 3) bm L.length D ∧ W.ownsRow base 9 1 v L.length (strs L) ∧
    Num D L ∧ L.Nodup ∧ (∀ s ∈ L, s.size ≤ maxLen) ∧ S B ∧ S bm ∧ (∀ g, v.ownBlock = some g → S g ∧ g ≠ B ∧ g ≠ bm) ∧ bm ≠ B ∧ ∀ k, S k → k < W.heap.size
theorem Bk.fr {S T : Nat → Prop} {W W' : World} {B : Nat} {L : List ByteArray} (h : Bk S W B L) (hf : Fr T W W') (hd : ∀ k, S k → ¬ T k) : Bk S W' B L := by
  obtain ⟨bm, v, D, base, h1, h2, h3, h4, h5, h6, h7, h8, h9, h10, h11⟩ := h
  refine ⟨bm, v, D, base, (hf.block B (Array.getElem?_eq_some_iff.1 h1).1 (hd B h7)).trans h1, ?_, hf.ownsRow h3 (fun g hg => hd g (h9 g hg).1), h4, h5, h6, h7, h8, h9, h10, fun k hk => Nat.lt_of_lt_of_le (h11 k hk) hf.size⟩
  obtain ⟨es, clock, hb, r⟩ := h2
  exact ⟨es, clock, (hf.block bm (Array.getElem?_eq_some_iff.1 hb).1 (hd bm h8)).trans hb, r⟩
theorem Bk.g {S : Nat → Prop} {W W' : World} {B : Nat} {L : List ByteArray} (h : Bk S W B L) (hg : G W W') : Bk S W' B L := h.fr (hg.fr (fun _ => False)) (fun _ _ x => x)
theorem Bk.ltS {S : Nat → Prop} {W : World} {B : Nat} {L : List ByteArray} (h : Bk S W B L) {k : Nat} (hk : S k) : k < W.heap.size := by
  obtain ⟨bm, v, D, base, h1, h2, h3, h4, h5, h6, h7, h8, h9, h10, h11⟩ := h
  exact h11 k hk

theorem new_any (w : World) : Calls Tryd.prog 5 #[] w fun e w' => ∃ B, e = .returned (.pointer (some ⟨B, 0, none⟩)) ∧ Bk (fun k => w.heap.size ≤ k ∧ k < w'.heap.size) w' B [] ∧ G w w' := by
  have hmm := @run_makeMap Tryd.prog
  go_enter Tryd.func5, Tryd.ntmps5
  go_wp2
  go_ret
  refine ⟨w.heap.size + 1, rfl, ⟨w.heap.size, .slice none 0 0, .map [], 0, ?_, ?_, World.ownsRow_nil _ _ _ _, Num.nil, List.nodup_nil, by simp, by simp, by simp; omega, by simp [Value.ownBlock], by omega, fun k hk => hk.2⟩, ((G.refl w).alloc _).alloc _⟩
  · have := alloc_new (w.alloc (.map #[] 0)) (.cells #[.map (some w.heap.size), .slice none 0 0] 38)
    rw [World.size_alloc] at this; exact this
  · exact (World.ownsMap_made w _ _ _).alloc _

theorem bk_cells {W : World} {B : Nat} {bm : Nat} {v : Value} {t : TypeId} (h : W.heap[B]? = some (.cells #[.map (some bm), v] t (0, 0))) :
    W.cell? ⟨B, 0, none⟩ = some (.map (some bm)) ∧ W.cell? ⟨B, 1, none⟩ = some v ∧ W.frozen? ⟨B, 0, none⟩ = false ∧ W.frozen? ⟨B, 1, none⟩ = false := by
  simp [World.cell?, World.frozen?, h]
theorem neqM (m : Option Nat) (w : World) : (binOp .neq 36 (.map m) (.map none)).run Tryd.prog w = .ok (.bool (!m.isNone)) w := run_neq_map_nil w 36 9 3 m Tryd.underlying36
theorem made_yes (B bm : Nat) (w : World) (hc : w.cell? ⟨B, 0, none⟩ = some (.map (some bm))) : Calls Tryd.prog 14 #[.pointer (some ⟨B, 0, none⟩)] w fun e w' => e = .returned (.bool true) ∧ w = w' := by
  have hm := neqM (some bm)
  go_enter Tryd.func14, Tryd.ntmps14
  go_wp2
  go_ret
  exact ⟨rfl, rfl⟩
theorem Num.look {W : World} {bm n : Nat} {D : DataW Unit} {L : List ByteArray} (h : Num D L) (hown : W.ownsMap Tryd.prog 9 (plainElem Tryd.prog 3) bm n D) {s : ByteArray} (hs : s.size ≤ maxLen) :
    (Instr.lookup 36 (.map (some bm)) (.string s) true).run Tryd.prog W = .ok (.tuple #[.int .i64 (num L s), .bool (inL s L)]) W ∧ (Instr.lookup 36 (.map (some bm)) (.string s) false).run Tryd.prog W = .ok (.int .i64 (num L s)) W := by
  obtain ⟨h1, h2⟩ := h s hs
  obtain ⟨v, ps, hrun, hv⟩ := hown.look_ok lawS Tryd.underlying36 (zeroI _) (plainElem_int Tryd.underlying3 (by decide)) (keyS_of hs)
  obtain ⟨c, hrun2, hat, _⟩ := hown.lookup_int lawS Tryd.underlying36 Tryd.underlying3 (zeroI _) (keyS_of hs)
  obtain ⟨c', rfl, hc', _⟩ := plainElem_int_inv Tryd.underlying3 hv
  rw [h2] at hat hc'
  rw [h1] at hrun
  simp only [DataW.lit.injEq, Lit.int.injEq, true_and, Prod.mk.injEq] at hat hc'
  obtain ⟨hc', -⟩ := hc'
  subst hat; subst hc'
  exact ⟨hrun, hrun2⟩
def textV (L : List ByteArray) (n : Int) : Value := if 0 ≤ n ∧ n < L.length then .tuple #[.string (L.getD n.toNat ⟨#[]⟩), .bool true] else .tuple #[.string ⟨#[]⟩, .bool false]
theorem text_any (S : Nat → Prop) (B : Nat) (L : List ByteArray) (n : Int) (w : World) (hb : Bk S w B L) :
    Calls Tryd.prog 10 #[.pointer (some ⟨B, 0, none⟩), .int .i64 n] w fun e w' => e = .returned (textV L n) ∧ w = w' := by
  obtain ⟨bm, v, D, base, h1, h2, h3, h4, -⟩ := hb
  obtain ⟨c0, c1, -⟩ := bk_cells h1
  have hr := rdr_of_owns h3
  obtain ⟨p, c, rfl, hl, hc⟩ := hr.at
  have H1 := Lib.hid h1
  obtain ⟨m, hm⟩ : ∃ m, m = L.length := ⟨_, rfl⟩
  rw [← hm] at c1 hc
  have HM := Lib.hid hm
  clear h1 h2 h3 h4 hr hl hm
  by_cases h0 : 0 ≤ n
  · by_cases h1 : n < m
    · obtain ⟨k, rfl⟩ : ∃ k : Nat, n = k := ⟨n.toNat, by omega⟩
      obtain ⟨b, o, rfl, hcell⟩ := hc (by omega)
      obtain ⟨x, hx⟩ : ∃ x, L[k]? = some x := ⟨L[k]'(by have := HM.out; omega), List.getElem?_eq_getElem _⟩
      have c2 := hcell k _ (strs_get hx)
      have HV := Lib.hid (show textV L k = .tuple #[.string x, .bool true] by rw [textV, if_pos ⟨by omega, by have := HM.out; omega⟩]; simp [hx])
      clear hcell hx hc
      go_enter Tryd.func10, Tryd.ntmps10
      go_wp2_with (go_at_call 14; refine (made_yes B bm _ c0).mono ?_; rintro e w' ⟨rfl, rfl⟩)
      go_ret2
      exact ⟨by rw [HV.out]; rfl, rfl⟩
    · have HV := Lib.hid (show textV L n = .tuple #[.string ⟨#[]⟩, .bool false] by rw [textV, if_neg (by have := HM.out; omega)])
      clear hc
      go_enter Tryd.func10, Tryd.ntmps10
      go_wp2_with (go_at_call 14; refine (made_yes B bm _ c0).mono ?_; rintro e w' ⟨rfl, rfl⟩)
      go_ret2
      exact ⟨by rw [HV.out]; rfl, rfl⟩
  · have HV := Lib.hid (show textV L n = .tuple #[.string ⟨#[]⟩, .bool false] by rw [textV, if_neg (by omega)])
    clear hc
    go_enter Tryd.func10, Tryd.ntmps10
    go_wp2_with (go_at_call 14; refine (made_yes B bm _ c0).mono ?_; rintro e w' ⟨rfl, rfl⟩)
    go_ret2
    exact ⟨by rw [HV.out]; rfl, rfl⟩
theorem len_any (S : Nat → Prop) (B : Nat) (L : List ByteArray) (w : World) (hb : Bk S w B L) :
    Calls Tryd.prog 8 #[.pointer (some ⟨B, 0, none⟩)] w fun e w' => e = .returned (.int .i64 L.length) ∧ w = w' := by
  obtain ⟨bm, v, D, base, h1, h2, h3, h4, -⟩ := hb
  obtain ⟨c0, c1, -⟩ := bk_cells h1
  obtain ⟨p, c, rfl, hl, hc⟩ := (rdr_of_owns h3).at
  have H1 := Lib.hid h1
  clear h1 h2 h3 h4 hc hl
  go_enter Tryd.func8, Tryd.ntmps8
  go_wp2_with (go_at_call 14; refine (made_yes B bm _ c0).mono ?_; rintro e w' ⟨rfl, rfl⟩)
  go_ret
  exact ⟨rfl, rfl⟩
end Go.Proofs.YtamhlflacnldfaaDoor
