/- the law's example, its count -/
import Derived.Test.YtamhlflacnldfaaDoorNameF
import Derived.Test.YtamhlflacnldfaaDoorNameG
namespace Go.Proofs.YtamhlflacnldfaaDoor
set_option linter.unusedVariables false
set_option linter.unusedSimpArgs false
open Go.RowKit Go.Shelf Go.Maps

theorem of_small (S : Nat → Prop) (B : Nat) (L ss : List ByteArray) (v : Value) (w : World) (hv : Rdr w 1 v ss.length (strs ss)) (hb : Bk S w B L) (hvS : 0 < ss.length → ∀ g, v.ownBlock = some g → ¬ S g) (hss : ∀ s ∈ ss, s.size ≤ maxLen)
    (hn : L.length + ss.length ≤ 65536) : Calls Tryd.prog 7 #[.pointer (some ⟨B, 0, none⟩), v] w fun e w' =>
    ∃ out S', e = .returned (.tuple #[out, .int .i64 0]) ∧ w'.ownsRow w.heap.size 3 1 out ss.length (ints (nums L ss)) ∧ Bk S' w' B (L ++ fresh L ss) ∧
    (∀ k, S' k → S k ∨ w.heap.size ≤ k) ∧ (∀ g, out.ownBlock = some g → ¬ S' g) ∧ Fr S w w' := by
  refine (of_any S B L ss v w hv hb hvS hss (by omega) (by omega)).mono ?_
  rintro e w' (⟨h, -⟩ | ⟨-, h⟩)
  · have := fresh_len L ss; omega
  · exact h
theorem sameI_yes (xs ys : List Int) (va vb : Value) (w : World) (ha : Rdr w 1 va xs.length (ints xs)) (hb : Rdr w 1 vb ys.length (ints ys)) (hx : xs.length ≤ 1099511627776) (he : xs = ys) :
    Calls Tryd.prog 9 #[va, vb] w fun e w' => e = .returned (.bool true) ∧ G w w' := by
  have := sameI_any xs ys va vb w ha hb hx (by rw [← he]; exact hx)
  simpa [he] using this
theorem free_is (s : ByteArray) (b : Bool) (w : World) (hs : s.size ≤ maxLen) (h : freeB s = b) : Calls Tryd.prog 11 #[.string s] w fun e w' => e = .returned (.bool b) ∧ G w w' := by rw [← h]; exact free_any s w hs
theorem g_of_fr {S : Nat → Prop} {w a b : World} (hg : G w a) (hf : Fr S a b) (hS : ∀ k, S k → w.heap.size ≤ k) : G w b := ((hg.fr (fun q => w.heap.size ≤ q)).trans hf (fun q _ h => hS q h)).g (fun _ h => h)

theorem nums1 : nums [] [⟨#[98]⟩, ⟨#[97]⟩, ⟨#[98]⟩] = [0, 1, 0] := by decide +kernel
theorem fresh1 : [] ++ fresh [] [⟨#[98]⟩, ⟨#[97]⟩, ⟨#[98]⟩] = [⟨#[98]⟩, ⟨#[97]⟩] := by decide +kernel
theorem nums2 : nums [⟨#[98]⟩, ⟨#[97]⟩] [⟨#[97]⟩, ⟨#[99]⟩] = [1, 2] := by decide +kernel
theorem fresh2 : [⟨#[98]⟩, ⟨#[97]⟩] ++ fresh [⟨#[98]⟩, ⟨#[97]⟩] [⟨#[97]⟩, ⟨#[99]⟩] = [⟨#[98]⟩, ⟨#[97]⟩, ⟨#[99]⟩] := by decide +kernel

set_option maxHeartbeats 400000 in
theorem awake_any (w : World) : Calls Tryd.prog 4 #[] w fun e w' => e = .returned (.bool true) ∧ G w w' := by
  go_enter Tryd.func4, Tryd.ntmps4
  go_wp2_with fail
  refine (new_any w).mono ?_
  rintro e w1 ⟨B, rfl, hb, hg1⟩
  have hs1 := hg1.size
  go_wp2_with fail
  refine (of_small _ B [] [⟨#[98]⟩, ⟨#[97]⟩, ⟨#[98]⟩] _ _ (rdr_alloc w1 (strs [⟨#[98]⟩, ⟨#[97]⟩, ⟨#[98]⟩]) 9 (0, 0) 1 3 3 rfl) (hb.g ((G.refl _).alloc _)) ?_ ?_ (by simp)).mono ?_
  · intro _ g hg h; cases hg; exact absurd h.2 (by simp)
  · intro s hs; simp at hs; rcases hs with h | h | h <;> (subst h; decide)
  rintro e w2 ⟨o1, S1, rfl, ho1, hb1, hS1, hd1, hF1⟩
  rw [nums1] at ho1
  rw [fresh1] at hb1
  have hg2 : G w w2 := g_of_fr (hg1.alloc _) hF1 (fun k h => h.1)
  have hs2 := hF1.size
  have hS1w : ∀ k, S1 k → w.heap.size ≤ k := fun k h => (hS1 k h).elim (fun h => h.1) (fun h => by simp at h; omega)
  have hS1l : ∀ k, S1 k → k < w2.heap.size := fun k h => hb1.ltS h
  have HS1w := Lib.hid hS1w
  have HS1l := Lib.hid hS1l
  have HD1 := Lib.hid hd1
  have HB1 := Lib.hid hb1
  have HO1 := Lib.hid ho1
  clear hS1w hS1l hb hS1 hF1 hb1 hd1
  simp only [World.size_alloc] at hs2
  go_wp2_with fail
  refine (of_small S1 B [⟨#[98]⟩, ⟨#[97]⟩] [⟨#[97]⟩, ⟨#[99]⟩] _ _ (rdr_alloc w2 (strs [⟨#[97]⟩, ⟨#[99]⟩]) 9 (0, 0) 1 2 2 rfl) (HB1.out.g ((G.refl _).alloc _)) ?_ ?_ (by simp)).mono ?_
  · intro _ g hg h; cases hg; exact absurd (HS1l.out _ h) (by simp)
  · intro s hs; simp at hs; rcases hs with h | h <;> (subst h; decide)
  rintro e w3 ⟨o2, S2, rfl, ho2, hb2, hS2, hd2, hF2⟩
  rw [nums2] at ho2
  rw [fresh2] at hb2
  have hg3 : G w w3 := g_of_fr (hg2.alloc _) hF2 HS1w.out
  have hs3 := hF2.size
  simp only [World.size_alloc] at hs3
  have hr1 : Rdr w3 1 o1 3 (ints [0, 1, 0]) := rdr_of_owns (hF2.ownsRow (HO1.out.alloc _) HD1.out)
  have hr2 : Rdr w3 1 o2 2 (ints [1, 2]) := rdr_of_owns ho2
  have HR1 := Lib.hid hr1
  have HR2 := Lib.hid hr2
  have HB2 := Lib.hid hb2
  clear hr1 hr2 hb2 ho1 ho2 hS2 hd2 hF2
  go_wp2_with fail
  refine (text_any S2 B _ 1 w3 HB2.out).mono ?_
  rintro e w4 ⟨he, rfl⟩
  rw [show textV [⟨#[98]⟩, ⟨#[97]⟩, ⟨#[99]⟩] 1 = .tuple #[.string ⟨#[97]⟩, .bool true] by rw [textV, if_pos (by decide)]; rfl] at he
  subst he
  go_wp2_with fail
  refine (sameI_yes [0, 1, 0] [0, 1, 0] _ _ _ (HR1.out.g ((G.refl _).alloc _)) (rdr_alloc w3 (ints [0, 1, 0]) 3 (0, 0) 1 3 3 rfl) (by simp) rfl).mono ?_
  rintro e w5 ⟨rfl, hg5⟩
  have hg5' : G w3 w5 := ((G.refl _).alloc _).trans hg5
  go_wp2_with fail
  refine (sameI_yes [1, 2] [1, 2] _ _ _ (HR2.out.g (hg5'.alloc _)) (rdr_alloc w5 (ints [1, 2]) 3 (0, 0) 1 2 2 rfl) (by simp) rfl).mono ?_
  rintro e w6 ⟨rfl, hg6⟩
  have hg6' : G w3 w6 := (hg5'.alloc _).trans hg6
  go_wp2_with fail
  refine (free_is ⟨#[97, 115, 49]⟩ true _ (by decide) (by decide +kernel)).mono ?_
  rintro e w7 ⟨rfl, hg7⟩
  go_wp2_with fail
  refine (free_is ⟨#[97, 115]⟩ false _ (by decide) (by decide +kernel)).mono ?_
  rintro e w8 ⟨rfl, hg8⟩
  go_wp2_with fail
  refine (vertex_is ⟨#[49, 97]⟩ true _ (by decide) (by decide +kernel)).mono ?_
  rintro e w9 ⟨rfl, hg9⟩
  go_wp2_with fail
  go_ret
  exact ⟨rfl, ((((hg3.trans hg6').trans hg7).trans hg8).trans hg9)⟩
end Go.Proofs.YtamhlflacnldfaaDoor
