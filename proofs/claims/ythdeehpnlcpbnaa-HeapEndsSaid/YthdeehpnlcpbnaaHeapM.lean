/- the document's heap: those up to a key -/
import Derived.Test.YthdeehpnlcpbnaaHeapL
namespace Go.Proofs.Ythdeehpnlcpbnaa
set_option linter.unusedVariables false
set_option linter.unusedSimpArgs false
open Go.RowKit Go.Shelf
attribute [local go_sem] Oper.semAt_some

def lenV (v : Value) : Nat := match v with | .slice _ n _ => n | _ => 0
def upK (key : Int) (x : Item) : Bool := decide (x.1 ≤ key)
theorem up_at {key : Int} : ∀ {L : List Item} {j many : Nat}, (L.take j).all (upK key) = true → j ≤ L.length → j ≤ many → (many ≤ j ∨ L.length ≤ j ∨ ∃ e, L[j]? = some e ∧ upK key e = false) → (L.takeWhile (upK key)).take many = L.take j
  | L, 0, many, _, _, _, h => by
    rcases h with h | h | ⟨e, he, hb⟩
    · have : many = 0 := by omega
      subst this; simp
    · have : L = [] := by cases L with | nil => rfl | cons a l => simp at h
      subst this; simp
    · cases L with
      | nil => cases he
      | cons a l => cases he; simp [hb]
  | [], j + 1, many, _, h, _, _ => by simp at h
  | a :: L, j + 1, many, h1, h2, h3, h4 => by
    simp only [List.take_succ_cons, List.all_cons, Bool.and_eq_true] at h1
    obtain ⟨m, rfl⟩ : ∃ m, many = m + 1 := ⟨many - 1, by omega⟩
    have := up_at (key := key) (L := L) (j := j) (many := m) h1.2 (by simpa using h2) (by omega) (h4.imp (fun h => by omega) (fun h => h.imp (fun h => by simpa using h) (fun h => by simpa using h)))
    rw [List.takeWhile_cons, if_pos h1.1, List.take_succ_cons, List.take_succ_cons, this]
/-- what UpTo leaves -/
def RUp (T : Nat → Prop) (R : Nat) (L X : List Item) (w : World) (e : Ending) (w' : World) : Prop :=
  ∃ u, e = .returned u ∧ w'.ownsRow w.heap.size 43 2 u X.length (icells X) ∧ (∃ v', RefAt T w' R v' (L.drop X.length)) ∧ Fr (fun k => k = R) w w'
set_option maxHeartbeats 1000000 in
theorem rupto_any (T : Nat → Prop) (R : Nat) (v : Value) (L : List Item) (key : Int) (many : Nat) (w : World) (h : RefAt T w R v L) (hn : L.length ≤ 1000000) (hm : many ≤ 1000) :
    Calls Try.prog 18 #[.pointer (some ⟨R, 0, none⟩), .int .i64 key, .int .i64 many] w (RUp T R L ((L.takeWhile (upK key)).take many) w) := by
  obtain ⟨X, hX⟩ : ∃ X, X = (L.takeWhile (upK key)).take many := ⟨_, rfl⟩
  rw [← hX]
  have HX := Lib.hid hX
  clear hX
  have HAT0 := Lib.hid h
  obtain ⟨i0, hi, hz0, hz1, hz2⟩ := info_parts infoRI
  have HLT : Hid (∀ k, T k → k < w.heap.size) := Lib.hid h.lt
  have HRl := h.lt R h.inR
  clear h
  go_enter Try.func18, Try.ntmps18
  go_wp2_with fail
  go_loopw [7] (fun out wr => ∃ (j : Nat), j ≤ L.length ∧ j ≤ many ∧ wr.ownsRow w.heap.size 43 2 out j (icells (L.take j)) ∧ Hid ((∃ v', RefAt T wr R v' (L.drop j)) ∧ (L.take j).all (upK key) = true) ∧ Fr (fun k => k = R) w wr) (fun out wr => L.length - lenV out)
  case atStart => exact ⟨0, by omega, by omega, World.ownsRow_nil _ _ _ _, Lib.hid ⟨⟨v, HAT0.out⟩, rfl⟩, Fr.refl _ _⟩
  case round =>
    obtain ⟨j, hjl, hjm, hown, HI, hf⟩ := hrel
    obtain ⟨op, oc, hov⟩ := ownsRow_shape hown
    subst hov
    have HOWN := Lib.hid hown
    obtain ⟨⟨v', hat⟩, -⟩ := HI.out
    obtain ⟨-, p, c, rfl, -⟩ := id hat.rdr
    have cR := hat.box.cell
    have fR := hat.box.frozen
    have hdl : (L.drop j).length = L.length - j := List.length_drop
    have hzw := hf.size
    have hlast : (many ≤ j ∨ L.length ≤ j ∨ ∃ e, L[j]? = some e ∧ upK key e = false) → Hid (X = L.take j) := fun h => Lib.hid (HX.out.trans (up_at HI.out.2 hjl hjm h))
    have HLEN : Hid ((L.take j).length = j) := Lib.hid (by rw [List.length_take]; omega)
    by_cases h1 : j < many
    · by_cases h2 : j < L.length
      · obtain ⟨x, hx⟩ : ∃ x, L[j]? = some x := ⟨L[j], List.getElem?_eq_getElem h2⟩
        have hdr : L.drop j = x :: L.drop (j + 1) := by
          obtain ⟨a, b⟩ := List.getElem?_eq_some_iff.1 hx
          rw [← b]; exact List.drop_eq_getElem_cons a
        rw [hdr] at hat cR
        obtain ⟨b, o, rfl, -, hcc, d0, d1, hbl⟩ := hat.head
        obtain ⟨x0, x1⟩ := x
        simp only [List.length_cons] at cR hcc
        obtain ⟨m, hm'⟩ : ∃ m, m = (L.drop (j + 1)).length := ⟨_, rfl⟩
        rw [← hm'] at cR hcc
        have hm0 : (0 : Int) < (m : Int) + 1 := by omega
        by_cases h3 : x0 ≤ key
        · have HAT := Lib.hid hat
          have HTL := Lib.hid hat.tail
          have HTK : Hid (L.take (j + 1) = L.take j ++ [(x0, x1)]) := Lib.hid (by rw [List.take_add_one, hx]; rfl)
          have HAL : Hid ((L.take (j + 1)).all (upK key) = true) := Lib.hid (by rw [HTK.out, List.all_append, HI.out.2]; simp [upK, h3])
          have HMM := Lib.hid hm'
          have hj1 : j + 1 ≤ L.length := h2
          have hcI : (1 : Int) ≤ (m : Int) + 1 := by omega
          have hcI2 : (m : Int) + 1 ≤ (c : Int) := by omega
          have HRB := Lib.hid hat.box
          clear hat hx hdr hlast hdl hown hm'
          go_wp2_with (at_builtin; refine wpList_append2 _ rfl _ _ 30 rfl w.heap.size 43 i0 (.agg #[.int .i64 0, .int .i64 0]) 2 16 Try.underlying30 hi hz0 hz1 hz2 rfl (by decide) (.slice op j oc) j (icells (L.take j)) rfl ((G.alloc (G.refl wr) _).ownsRow HOWN.out) ⟨wr.heap.size, 0, none⟩ 1 1 [.int .i64 x0, .int .i64 x1] rfl rfl (World.news_of_block (cs := #[.int .i64 x0, .int .i64 x1]) (t := 43) (fr := (0, 0)) (alloc_new wr _)) (by simp [Value.oneCell']) (by unfold maxLen; omega) (by omega) (by simp; omega) ?_; intro v2 w1' hown hgrow hnil hat2; obtain ⟨op2, oc2, rfl⟩ := ownsRow_shape hown; have hfa : Fr (fun q => (Value.slice op j oc).ownBlock = some q) wr w1' := (((G.refl wr).alloc _).fr _).trans (grownBy_fr hgrow) (fun _ _ h => h); have hnR : ¬ (Value.slice op j oc).ownBlock = some R := (fun e => by have := (HOWN.out.lt R e).1; omega); have hb3 := hfa.boxed HRB.out hnR; have cR3 := hb3.cell; have fR3 := hb3.frozen; have HO := Lib.hid (And.intro hown hfa); clear hown hfa hgrow hnil hat2 hb3)
          have h5 := (HAT.out.fr HO.out.2 (fun k hk e => by have := HLT.out k hk; have := (HOWN.out.lt k e).1; omega)).tail
          rw [List.length_drop] at h5
          have h6 : Fr (fun k => k = R) w (w1'.setCell ⟨R, 0, none⟩ (.slice (if c = 1 then some ⟨b, o, none⟩ else some ⟨b, o + 2, none⟩) (L.length - (j + 1)) (c - 1))) := (hf.trans HO.out.2 (fun i hi e => by have := (HOWN.out.lt i e).1; omega)).setCell (p := ⟨R, 0, none⟩) (.inl rfl) _
          have h7 : (w1'.setCell ⟨R, 0, none⟩ (.slice (if c = 1 then some ⟨b, o, none⟩ else some ⟨b, o + 2, none⟩) (L.length - (j + 1)) (c - 1))).ownsRow w.heap.size 43 2 (.slice op2 (j + 1) oc2) (j + 1) (icells (L.take (j + 1))) := by
            rw [HTK.out, icells_snoc]
            exact ((Fr.refl (fun q => q = R) w1').setCell (p := ⟨R, 0, none⟩) (.inl rfl) _).ownsRow HO.out.1 (fun g hg e => by have := (HO.out.1.lt g hg).1; omega)
          go_roundw
          case rel => exact ⟨j + 1, hj1, by omega, h7, Lib.hid ⟨⟨_, h5⟩, HAL.out⟩, h6⟩
          case measure => simp [lenV]; omega
        · have HE := hlast (.inr (.inr ⟨_, hx, by simp [upK, h3]⟩))
          have h3d : decide (x0 ≤ key) = false := by simpa using h3
          have HAT := Lib.hid hat
          have HDR := Lib.hid hdr
          clear hat hx hdr hlast hdl hown hm' h3
          go_wp2_with fail
          go_ret
          exact ⟨.slice op j oc, rfl, by rw [HE.out, HLEN.out]; exact HOWN.out, ⟨_, by rw [HE.out, HLEN.out]; exact (by rw [HDR.out]; exact HAT.out)⟩, hf⟩
      · have HE := hlast (.inr (.inl (by omega)))
        have hd0 : (L.drop j).length = 0 := by omega
        rw [hd0] at cR
        have HAT := Lib.hid hat
        clear hat hlast hdl hd0 hown
        go_wp2_with fail
        go_ret
        exact ⟨.slice op j oc, rfl, by rw [HE.out, HLEN.out]; exact HOWN.out, ⟨_, by rw [HE.out, HLEN.out]; exact HAT.out⟩, hf⟩
    · have HE := hlast (.inl (by omega))
      have h1d : decide (j < many) = false := by simpa using h1
      have HAT := Lib.hid hat
      clear hat hlast hdl hown h1
      go_wp2_with fail
      go_ret
      exact ⟨.slice op j oc, rfl, by rw [HE.out, HLEN.out]; exact HOWN.out, ⟨_, by rw [HE.out, HLEN.out]; exact HAT.out⟩, hf⟩
end Go.Proofs.Ythdeehpnlcpbnaa
