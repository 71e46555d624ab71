/- a new heap; a copy; those up to a key -/
import Derived.Test.YthdeehpnlcpbnaaHeapE
namespace Go.Proofs.Ythdeehpnlcpbnaa
set_option linter.unusedVariables false
set_option linter.unusedSimpArgs false
open Go.RowKit Go.Shelf
attribute [local go_sem] Oper.semAt_some

theorem new_any (xs : List Item) (u : Value) (w : World) (hu : Rdr w 2 u xs.length (icells xs)) (hn : xs.length ≤ 1000000) :
    Calls Try.prog 7 #[u] w fun e w' => e = .returned (.pointer (some ⟨w.heap.size, 0, none⟩)) ∧ (∃ v S, HeapAt S w' w.heap.size v (pushes [] xs) ∧ ∀ k, S k → w.heap.size ≤ k) ∧ G w w' := by
  obtain ⟨hul, up, uc, rfl, -⟩ := id hu
  have hat : HeapAt (fun k => k = w.heap.size) (w.alloc (.cells #[.slice none 0 0, .bool true] 57)) w.heap.size (.slice none 0 0) [] :=
    ⟨alloc_new _ _, World.ownsRow_nil _ _ _ _, rfl, fun g h => (by cases h), fun k hk => by subst hk; simp⟩
  have hd : 0 < xs.length → ∀ g, (Value.slice up xs.length uc).ownBlock = some g → ¬ g = w.heap.size := fun h g hg e => by have := hu.lt h (by omega) g hg; omega
  have HP := Lib.hid (push_any _ _ _ [] xs (.slice up xs.length uc) _ hat (hu.alloc _) hd (by simpa using hn))
  clear hu hul hat hd
  go_enter Try.func7, Try.ntmps7
  go_wp2_with fail
  refine HP.out.mono ?_
  rintro e w2 ⟨rfl, v', S', hat, hgr, hf⟩
  have HF : Hid ((∃ v S, HeapAt S w2 w.heap.size v (pushes [] xs) ∧ ∀ k, S k → w.heap.size ≤ k) ∧ G w w2) := Lib.hid ⟨⟨v', S', hat, fun k hk => (hgr.new k hk).elim (fun e => by omega) (fun h => by simp at h; omega)⟩,
    ((((G.refl w).alloc (.cells #[.slice none 0 0, .bool true] 57)).fr (fun k => k = w.heap.size)).trans hf (fun _ _ h => h)).g (fun i hi => by omega)⟩
  clear hat hgr hf
  go_wp2_with fail
  go_ret
  exact ⟨rfl, HF.out⟩
theorem iclone_any (l : List Item) (v : Value) (w : World) (hv : Rdr w 2 v l.length (icells l)) (hn : l.length ≤ 1000000) :
    Calls Try.prog 30 #[v] w fun e w' => ∃ u, e = .returned u ∧ w'.ownsRow w.heap.size 40 2 u l.length (icells l) ∧ G w w' := by
  obtain ⟨hl1, p, c, rfl, hl2⟩ := id hv
  have HV := Lib.hid hv
  obtain ⟨i0, hi, hz0, hz1, hz2⟩ := info_parts infoI
  have heq := Lib.run_eql_slice_nil (P := Try.prog) w 22 40 p l.length c 0 0 Try.underlying22
  have HO := Lib.hid (icells_one l)
  clear hv hl1
  cases p with
  | none =>
    have hl : l = [] := by
      cases l with
      | nil => rfl
      | cons x l =>
        obtain ⟨b, o, hp, -⟩ := hl2 (by simp)
        cases hp
    subst hl
    simp only [Option.isNone_none, List.length_nil] at heq
    clear hl2
    go_enter Try.func30, Try.ntmps30
    go_wp2_with fail
    go_ret
    exact ⟨.slice none 0 0, rfl, World.ownsRow_nil _ _ _ _, G.refl w⟩
  | some a =>
    simp only [Option.isNone_some] at heq
    clear hl2
    go_enter Try.func30, Try.ntmps30
    go_wp2_with (at_builtin; refine wpList_appendR _ rfl _ _ 22 rfl w.heap.size 40 i0 (.agg #[.int .i64 0, .int .i64 0]) 2 16 Try.underlying22 hi hz0 hz1 hz2 rfl (by decide) _ 0 [] rfl (World.ownsRow_made w #[] 0 (Nat.le_refl _) (Nat.zero_le _) rfl) (.slice (some a) l.length c) l.length (icells l) rfl (Rdr.g HV.out ((G.refl w).alloc _)) HO.out (by unfold maxLen; omega) (by omega) (by simp) ?_; intro mp mc w1 hown1 hgrow1 hat1)
    simp only [Nat.zero_add, List.nil_append] at hown1 hat1 ⊢
    have hg1 : G w w1 := ((G.refl w).alloc _).grown hgrow1 (fun k h => by have := Option.some.inj h; simp at this; omega)
    go_wp2_with fail
    go_ret
    exact ⟨_, rfl, hown1, hg1⟩
theorem copy_any (S : Nat → Prop) (B : Nat) (v : Value) (hs : List Item) (w : World) (h : HeapAt S w B v hs) (hn : hs.length ≤ 1000000) :
    Calls Try.prog 19 #[.pointer (some ⟨B, 0, none⟩)] w fun e w' => ∃ B2, e = .returned (.pointer (some ⟨B2, 0, none⟩)) ∧ (∃ v2 S2, HeapAt S2 w' B2 v2 hs ∧ ∀ k, S2 k → w.heap.size ≤ k) ∧ G w w' := by
  obtain ⟨p, c, hv⟩ := ownsRow_shape h.own
  subst hv
  obtain ⟨cb0, cb1, -, -⟩ := box2 h.box
  have HC := Lib.hid (iclone_any hs _ w (rdr_of_owns h.own) hn)
  have HM := Lib.hid (made_any cb1)
  clear h
  go_enter Try.func19, Try.ntmps19
  go_wp2_with fail
  refine HM.out.mono ?_
  rintro e w' ⟨rfl, rfl⟩
  go_wp2_with fail
  refine HC.out.mono ?_
  rintro e w2 ⟨u, rfl, hown, hg⟩
  obtain ⟨q, d, hue⟩ := ownsRow_shape hown
  subst hue
  have HOWN := Lib.hid hown
  clear hown
  go_wp2_with fail
  go_ret
  refine ⟨w2.heap.size, rfl, ⟨.slice q hs.length d, fun k => w.heap.size ≤ k ∧ k < w2.heap.size + 1, ⟨alloc_new _ _, ownsRow_mono (((G.refl w2).alloc _).ownsRow HOWN.out) (Nat.zero_le _), ⟨hg.size, by omega⟩, fun g hg' => ?_, fun k hk => by simp; exact hk.2⟩, fun k hk => hk.1⟩, hg.alloc _⟩
  have := HOWN.out.lt g hg'
  exact ⟨⟨this.1, by omega⟩, by omega⟩
theorem upto_any (B : Nat) (key : Int) (w : World) : Calls Try.prog 29 #[.pointer (some ⟨B, 0, none⟩), .int .i64 key] w fun e w' =>
    e = .returned (.func (.func 32) #[] #[.pointer (some ⟨w.heap.size, 0, none⟩), .pointer (some ⟨w.heap.size + 1, 0, none⟩)]) ∧ w' = (w.alloc (.cells #[.pointer (some ⟨B, 0, none⟩)] 26)).alloc (.cells #[.int .i64 key] 3) := by
  go_enter Try.func29, Try.ntmps29
  go_wp2
  go_ret
  exact ⟨rfl, rfl⟩
theorem popL_len (hs : List Item) : (popL hs).length = hs.length - 1 := by
  unfold popL
  split
  · rename_i h; subst h; rfl
  · rw [sink_len, List.length_take, List.length_set]; omega
/-- those up to a key, one behind the other -/
def tk (key : Int) : Nat → List Item → List Item
  | 0, _ => []
  | n + 1, hs => if hs = [] then [] else if (at' hs 0).1 ≤ key then at' hs 0 :: tk key n (popL hs) else []
def pops : Nat → List Item → List Item
  | 0, hs => hs
  | n + 1, hs => pops n (popL hs)
theorem pops_succ : ∀ (n : Nat) (hs : List Item), pops (n + 1) hs = popL (pops n hs)
  | 0, hs => rfl
  | n + 1, hs => pops_succ n (popL hs)
theorem pops_len : ∀ (n : Nat) (hs : List Item), (pops n hs).length = hs.length - n
  | 0, hs => rfl
  | n + 1, hs => by rw [pops, pops_len n, popL_len]; omega
def encI (x : Item) : Array Value := #[iv x]
end Go.Proofs.Ythdeehpnlcpbnaa
