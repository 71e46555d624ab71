/- The statement EdgeOrder: for any row of edges, any turn, the law answers true and writes nothing that was there. No condition. -/
import Derived.Test.YtfdajignnnhnmaaRows
import Derived.Test.YtfdajignnnhnmaaOrdB
import Derived.Test.YtfdajignnnhnmaaSortOp
import Derived.Test.YtfdajignnnhnmaaLaw
import Derived.ChangeMaps5
import Derived.SizedLaws
namespace Go.Proofs.Ytfdajignnnhnmaa.edgeOrder
set_option linter.unusedVariables false
open Go.ChangeShapes Go.WideShapes Go.ChangeAt Go.RowKit

theorem own : ownKnob Try.prog.godebug = none := by kernel_rfl
theorem laidOut : laidOutB Try.prog = true := by kernel_rfl

set_option maxRecDepth 100000 in
theorem lifted (os : Os) (started : os.Started) (H : Type) (enc : TypeId × Value → H) :
    ReturnsInHanded {} Try.checked os 7 .any (Rows.edgeOrderSpec.pre6 enc Try.prog Try.f7 Rows.edgeOrderRow.domain false) (Rows.edgeOrderSpec.post enc Try.prog Try.f7 false true false false) := by
  refine returnsInHanded_of_change_sized (C := Try.checked) own started (by kernel_rfl) Try.func7
    (ChangeSpec.witness6 (enc := enc) (C := Try.checked) false ⟨#[], #[.slice none 0 0, .int .i64 0], []⟩ 8 (by kernel_rfl) (by kernel_rfl) (by kernel_rfl) (by kernel_rfl)) ?_
  intro W base args ds gs before hval0 hW hcnd hsz0 _
  have hval : ∀ (j : Nat) t v, Try.f7.params[j]? = some t → args[j]? = some v → Value.okWide Try.prog W .any base t v := hval0
  have hW' := hW
  obtain ⟨p, q, hA0, hV, rfl, hfz, hnd⟩ := hW
  have hA : DataW.TrodAll enc Try.prog W 0 (fun _ => true) true Try.f7.params.toList args.toList ds p := hA0
  have hsz : (DataW.weightsEach Try.prog (Try.f7.params.toList ++ Rows.edgeOrderSpec.plain.varTypes Try.prog) (ds ++ gs)).all (· ≤ reachBytes) = true := hsz0
  rw [Try.params7] at hA hval hsz
  obtain ⟨v0, vs0, d0, ds0, p0, q0, hargs, rfl, rfl, h0, r0⟩ := trodAll_cons hA
  obtain ⟨v1, vs1, d1, ds1, p1, q1, rfl, rfl, rfl, h1, r1⟩ := trodAll_cons r0
  obtain ⟨rfl, rfl, rfl⟩ := trodAll_nil r1
  obtain rfl : args = #[v0, v1] := by cases args; simp_all
  obtain ⟨rfl, rfl⟩ := trodVars_none hV
  obtain ⟨a0, len0, cap0, rfl⟩ := okWide_slice Try.underlying35 (hval 0 35 v0 rfl rfl)
  obtain ⟨turn, rfl⟩ := okWide_int Try.underlying3 (hval 1 3 v1 rfl rfl)
  obtain ⟨f0, g0⟩ := h0
  have hcap : len0 ≤ cap0 ∧ cap0 ≤ maxLen := by
    rcases Go.Deep.open_slice Try.underlying35 g0 with ⟨h1, -⟩ | ⟨a, len, cap, m, n, D, Pl, h1, -, hl, hm, -⟩
    · cases h1; exact ⟨Nat.le_refl _, Nat.zero_le _⟩
    · cases h1; exact ⟨hl, hm⟩
  obtain ⟨l, hr, he, hw⟩ := open_edges g0
  obtain ⟨b1, b2⟩ := hw reachBytes (fun m hm => by
    have := List.all_eq_true.1 hsz m (DataW.weights_mem_each (j := 0) rfl rfl m hm)
    simpa using this)
  simp only [reachBytes] at b1 b2
  obtain rfl : len0 = l.length := by obtain ⟨-, p9, c9, e9, -⟩ := hr; cases e9; rfl
  refine (order_any l turn a0 cap0 W ⟨hr, fun E hE => ?_⟩ hcap.1 hcap.2 (by omega)).mono fun e W' ⟨he, hg⟩ => ?_
  · obtain ⟨e1, e2, e3, e4, e5⟩ := he E hE
    have := b2 E hE
    exact ⟨e1, by omega, e2, e3, e4, e5⟩
  subst he
  exact ⟨_, rfl, post_true laidOut (by rw [Try.params7]; intro t ht; simp at ht; (rcases ht with rfl | rfl <;> exact ⟨by kernel_rfl, of_decide_eq_true (by kernel_rfl)⟩)) hW' rfl rfl Try.underlying4 rfl rfl rfl hg⟩

theorem proved : Rows.EdgeOrderSaid :=
  OpenClaim.holds_of_wide 7 Try.f7 rfl rfl rfl rfl rfl rfl rfl ⟨rfl, rfl, rfl, rfl, rfl⟩ rfl rfl rfl rfl rfl (by kernel_rfl) Try.func7 (by kernel_rfl)
    (of_decide_eq_true (by kernel_rfl)) (by unfold Func.isWrapper; first | (rw [if_pos (by decide +kernel)]; kernel_rfl) | (rw [if_neg (by decide +kernel)]; exact ⟨rfl, rfl⟩))
    (fun os started H enc _ => lifted os started H enc)
end Go.Proofs.Ytfdajignnnhnmaa.edgeOrder
