/- NameSays: the walk -/
import Derived.Test.YtamhlflacnldfaaNameH
namespace Go.Proofs.Ytamhlflacnldfaa
set_option linter.unusedVariables false
set_option linter.unusedSimpArgs false
open Go.RowKit Go.Shelf Go.Maps

theorem rFree_is (s : ByteArray) (b : Bool) (w : World) (hs : s.size ≤ maxLen) (h : freeB s = b) : Calls Try.prog 9 #[.string s] w fun e w' => e = .returned (.bool b) ∧ w = w' := by rw [← h]; exact rFree_any s w hs
theorem says_any (s : ByteArray) (w : World) (hs : s.size ≤ maxLen) : Calls Try.prog 3 #[.string s] w fun e w' => e = .returned (.bool true) ∧ G w w' := by
  obtain ⟨b, hb⟩ : ∃ b, vertexB s = b := ⟨_, rfl⟩
  obtain ⟨f, hf⟩ : ∃ f, freeB s = f := ⟨_, rfl⟩
  have HB := Lib.hid hb
  have HF := Lib.hid hf
  clear hb hf
  go_enter Try.func3, Try.ntmps3
  go_wp2_with fail
  refine (vertex_is s b w hs HB.out).mono ?_
  rintro e w1 ⟨rfl, hg1⟩
  go_wp2_with fail
  refine (rVertex_is s b w1 hs HB.out).mono ?_
  rintro e w2 ⟨rfl, rfl⟩
  have hbb : (b == b) = true := by cases b <;> rfl
  have hff : (f == f) = true := by cases f <;> rfl
  go_wp2_with fail
  refine (free_is s f w1 hs HF.out).mono ?_
  rintro e w3 ⟨rfl, hg3⟩
  go_wp2_with fail
  refine (rFree_is s f w3 hs HF.out).mono ?_
  rintro e w4 ⟨rfl, rfl⟩
  go_wp2_with fail
  refine (awake_any w3).mono ?_
  rintro e w5 ⟨rfl, hg5⟩
  go_wp2_with fail
  go_ret
  exact ⟨rfl, (hg1.trans hg3).trans hg5⟩
end Go.Proofs.Ytamhlflacnldfaa
