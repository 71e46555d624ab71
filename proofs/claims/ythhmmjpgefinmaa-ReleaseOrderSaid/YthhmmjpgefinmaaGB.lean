/- laid together: Round Reg Seq2 Law -/
import Derived.Test.YthhmmjpgefinmaaGA
import Derived.BigQuiet
import Derived.Sort.QuietIn
import Derived.OrdersHeld
import Derived.Deep.RegionHeld3
import Derived.Carry
/- In a round: a region that draws its order and only reads. -/
namespace Go.Proofs.Ythhmmjpgefinmaa
set_option linter.unusedVariables false
open Go.RowKit
def noDefer (ops : Array Oper) : Bool := ops.toList.all fun o => match o.op with | .defer _ => false | _ => true
theorem noDefer_at {ops : Array Oper} (h : noDefer ops = true) {i : Nat} {o : Oper} (hi : ops[i]? = some o) (c : _) : o.op ≠ .defer c := by
  intro e
  have := List.all_eq_true.1 h o (by have := Array.mem_of_getElem? hi; simpa using this)
  simp [e] at this
section
variable {P : Program} {ops : Array Oper} {md : Region.Mode} {C : World → Prop} {l n : Nat}
theorem wpIn_of_quiet {o : Oper} (hd : ∀ c, o.op ≠ .defer c) {a : Act} {K : Act → Prop} {K' : Act → World → Prop} {Q' : Exit → Act → World → Prop} {w : World} (hw : C w) (h : ∀ a w', C w' → K a → K' a w') (hh : o.quiet P a C K) : o.wpIn (Fence.wide.inRound l) n P a w K' Q' := by
  obtain ⟨v, h1, h2⟩ := hh
  have h3 := h1 w hw
  unfold Oper.quietAt at h3
  unfold Oper.wpIn
  refine ⟨fun _ _ => trivial, ?_⟩
  rw [Oper.semAt_eq _ _ _ hd]
  generalize (execOp a.eval o).run P w = r at *
  cases r with
  | ok n w' =>
    cases n <;> simp only [Oper.quietUpon] at h3 <;> simp only [Oper.uponIn]
    case value u =>
      obtain ⟨e1, e2⟩ := h3
      rw [e1, e2]
      exact h _ _ hw h2
    case skip =>
      obtain ⟨e1, e2⟩ := h3
      rw [e1, ← e2]
      exact h _ _ hw h2
    case enter f args =>
      obtain ⟨e1, hc⟩ := h3
      rw [e1]
      exact ⟨fun h => by simp [Fence.wide] at h, CallsIn.inRound l (callsIn_wide.2 (hc.mono fun e w'' ⟨he, hw''⟩ => by subst he; exact h _ _ hw'' h2))⟩
  | halt x w' => simp only [Oper.quietUpon] at h3
theorem wpOpIn_of_qOp (hd : noDefer ops = true) {i : Nat} {a : Act} {K : Act → Prop} {K' : Act → World → Prop} {Q' : Exit → Act → World → Prop} {w : World} (hC : C w) (h : ∀ a w', C w' → K a → K' a w') (hh : qOp P ops C i K a) : wpOpIn (Fence.wide.inRound l) n P ops Q' i K' a w := by
  unfold qOp at hh
  unfold wpOpIn
  split
  · rename_i ho; simp only [ho] at hh; exact h _ _ hC hh
  · rename_i o ho
    simp only [ho] at hh
    split
    · rename_i hw; simp only [hw, if_true] at hh; exact wpIn_of_quiet (noDefer_at hd ho) hC h hh
    · rename_i hw; simp only [hw] at hh; exact ⟨fun _ _ => trivial, h _ _ hC hh⟩
theorem wpAnyIn_of_quiet (hd : noDefer ops = true) {Q : Act → Prop} {Q' : Exit → Act → World → Prop} (hQ : ∀ a w, C w → Q a → Q' .normal a w) : ∀ (fuel : Nat) (listed : Array Bool) (a : Act) (w : World), C w →
    wpAnyQ P md ops C Q fuel listed a → wpAnyIn (Fence.wide.inRound l) n P md ops Q' fuel listed a w
  | 0, _, _, _, hw, h => ⟨h.1, hQ _ _ hw h.2⟩
  | fuel + 1, _, _, _, hw, h => ⟨fun h0 => hQ _ _ hw (h.1 h0), fun i hi => wpOpIn_of_qOp hd hw (fun a' w' hw' => wpAnyIn_of_quiet hd hQ fuel _ a' w' hw') (h.2 i hi)⟩
theorem region_quiet_round {id : Nat} {Q : Exit → Act → World → Prop} {a : Act} {w : World} {os : List Oper} (hm : P.follows .mixedOrders = true) (hB : Region.lexB .any os.toArray = true) (hd : noDefer os.toArray = true)
    (h : wpQuiet P os.toArray (fun w' => ∃ n, w' = w.drewN n) (fun a' => ∀ w', (∃ n, w' = w.drewN n) → Q .normal a' w') os a) : (Code.region id os.toArray true).wpIn (Fence.wide.inRound l) n P Q a w := by
  simp only [Region.lexB, Bool.and_eq_true] at hB
  refine wpIn_region_any hm (wpAnyIn_of_quiet (C := fun w' => ∃ n, w' = w.drewN n) hd (Q := fun a' => ∀ w', (∃ n, w' = w.drewN n) → Q .normal a' w') (fun _ w' hw' h => h w' hw') _ _ _ _ ⟨1, rfl⟩ ?_)
  have := wpAnyQ_lex (P := P) (C := fun w' => ∃ n, w' = w.drewN n) (Q := fun a' => ∀ w', (∃ n, w' = w.drewN n) → Q .normal a' w') (md := .any) hB.1 os 0 (Array.replicate os.toArray.size false) a (by simp) (by simpa using hB.2) h
  simpa using this
end
end Go.Proofs.Ythhmmjpgefinmaa

/- A region that draws its order: loads and the like are met first, in whatever world of a class S; what writes comes in its one order; behind the last one nothing is asked of S. In the plain walk and in a round. -/
namespace Go.Proofs.Ythhmmjpgefinmaa
set_option linter.unusedVariables false
open Go.RowKit
section
variable {P : Program} {ops : Array Oper} {Q : Exit → Act → World → Prop} {md : Region.Mode} {S : World → Prop} {t : Nat}
/-- operation number i comes up -/
def opR (P : Program) (ops : Array Oper) (Q : Exit → Act → World → Prop) (i : Nat) (K : Act → World → Prop) (a : Act) (w : World) : Prop :=
  match ops[i]? with
  | none => K a w
  | some o => if Region.wanted o (yielded ops a.tmps) = true then o.wp P a w K Q else K (a.put o.dst undef) w
theorem opR.plain {i : Nat} {K : Act → World → Prop} {a : Act} {w : World} (h : opR P ops Q i K a w) : wpOp P ops Q i K a w := by
  unfold opR at h; unfold wpOp
  split <;> rename_i o <;> simp only [o] at h
  · exact h
  · split <;> rename_i hw <;> simp only [hw] at h
    · exact .inl h
    · exact h
theorem wp_mono_op {o : Oper} {a : Act} {w : World} {K K' : Act → World → Prop} (hK : ∀ a w, K a w → K' a w) (h : o.wp P a w K Q) : o.wp P a w K' Q := by
  unfold Oper.wp at *
  generalize (execOp a.eval o).run P w = r at *
  cases r with
  | ok n w' =>
    cases n <;> simp only [Oper.upon] at h ⊢
    case value u => exact hK _ _ h
    case skip => exact hK _ _ h
    case defer d => exact hK _ _ h
    case enter f args =>
      refine Calls.mono h fun e w'' he => ?_
      cases e with
      | returned u => exact hK _ _ he
      | panicked c => exact he
      | outgrown => exact he
    case row row args => exact Rows.mono h fun u w'' he => hK _ _ he
  | halt x w' => cases x <;> simp only [Oper.upon] at h ⊢ <;> exact h
theorem wp_leave {o : Oper} {a : Act} {w : World} {K : Act → World → Prop} {Q' : Exit → Act → World → Prop} (hQ : ∀ c a w, Q (.panic c) a w → Q' (.panic c) a w) (hL : LetsOut Q → LetsOut Q') (h : o.wp P a w K Q) : o.wp P a w K Q' := by
  unfold Oper.wp at *
  generalize (execOp a.eval o).run P w = r at *
  cases r with
  | ok n w' =>
    cases n <;> simp only [Oper.upon] at h ⊢
    case value u => exact h
    case skip => exact h
    case defer d => exact h
    case enter f args =>
      refine Calls.mono h fun e w'' he => ?_
      cases e with
      | returned u => exact he
      | panicked c => exact hQ _ _ _ he
      | outgrown => exact hL he
    case row row args => exact h
  | halt x w' =>
    cases x <;> simp only [Oper.upon] at h ⊢
    case panic u => exact hQ _ _ _ h
theorem opR_mono {i : Nat} {K K' : Act → World → Prop} {a : Act} {w : World} (hK : ∀ a w, K a w → K' a w) (h : opR P ops Q i K a w) : opR P ops Q i K' a w := by
  unfold opR at *
  split <;> rename_i o <;> simp only [o] at h
  · exact hK _ _ h
  · split <;> rename_i hw <;> simp only [hw] at h
    · exact wp_mono_op hK h
    · exact hK _ _ h
theorem wpIn_of_wp {o : Oper} {l n : Nat} (hd : ∀ c, o.op ≠ .defer c) {a : Act} {w : World} {K : Act → World → Prop} (h : o.wp P a w K Q) : o.wpIn (Fence.wide.inRound l) n P a w K Q := by
  unfold Oper.wp at h; unfold Oper.wpIn
  refine ⟨fun _ _ => trivial, ?_⟩
  rw [Oper.semAt_eq _ _ _ hd]
  generalize (execOp a.eval o).run P w = r at *
  cases r with
  | ok x w' =>
    cases x <;> simp only [Oper.upon] at h <;> simp only [Oper.uponIn]
    case value u => exact h
    case skip => exact h
    case defer d => exact h
    case enter f args => exact ⟨fun h => by simp [Fence.wide] at h, CallsIn.inRound l (callsIn_wide.2 h)⟩
    case row row args =>
      refine ⟨fun h => by simp [Fence.wide] at h, fun c cs _ => ?_⟩
      obtain ⟨v, w'', h1, h2⟩ := h c cs
      exact ⟨v, w'', h1, stepsIn_wide.2 h2⟩
  | halt x w' => cases x <;> simp only [Oper.upon] at h <;> simp only [Oper.uponIn] <;> exact h
theorem opR.round {l n : Nat} (hd : noDefer ops = true) {i : Nat} {K : Act → World → Prop} {a : Act} {w : World} (h : opR P ops Q i K a w) : wpOpIn (Fence.wide.inRound l) n P ops Q i K a w := by
  unfold opR at h; unfold wpOpIn
  split <;> rename_i o <;> simp only [o] at h
  · exact h
  · split <;> rename_i hw <;> simp only [hw] at h
    · exact wpIn_of_wp (noDefer_at hd o) h
    · exact ⟨fun _ _ => trivial, h⟩
/-- the walk: S behind every operation but number t -/
def hl (P : Program) (md : Region.Mode) (ops : Array Oper) (Q : Exit → Act → World → Prop) (S : World → Prop) (t : Nat) : Nat → Array Bool → Act → World → Prop
  | 0, listed, a, w => Region.ready md ops listed = [] ∧ Q .normal a w
  | fuel + 1, listed, a, w => (Region.ready md ops listed = [] → Q .normal a w) ∧
    ∀ i ∈ Region.ready md ops listed, opR P ops Q i (fun a' w' => (i ≠ t → S w') ∧ hl P md ops Q S t fuel (listed.setIfInBounds i true) a' w') a w
theorem hl.any : ∀ (fuel : Nat) (listed : Array Bool) (a : Act) (w : World), hl P md ops Q S t fuel listed a w → wpAny P md ops Q fuel listed a w
  | 0, _, _, _, h => h
  | fuel + 1, _, _, _, h => ⟨h.1, fun i hi => wpOp_mono (fun a' w' h' => hl.any fuel _ a' w' h'.2) (h.2 i hi).plain⟩
theorem hl.anyIn {l n : Nat} (hd : noDefer ops = true) : ∀ (fuel : Nat) (listed : Array Bool) (a : Act) (w : World), hl P md ops Q S t fuel listed a w → wpAnyIn (Fence.wide.inRound l) n P md ops Q fuel listed a w
  | 0, _, _, _, h => h
  | fuel + 1, _, _, _, h => ⟨h.1, fun i hi => wpOpIn_mono (fun a' w' h' => hl.anyIn hd fuel _ a' w' h'.2) ((h.2 i hi).round hd)⟩
theorem hit {i : Nat} {o : Oper} {v : Value} {a : Act} (hi : ops[i]? = some o) (hy : YieldsIf P ops S o v a) {K : Act → World → Prop} {w : World} (hS : S w) (h : K (a.put o.dst v) w) : opR P ops Q i K a w := by
  unfold opR
  simp only [hi]
  rcases hy with ⟨hw, hv⟩ | ⟨hw, rfl⟩
  · simp only [hw, if_true, Oper.wp, hv w hS, Oper.upon]; exact h
  · simp only [hw, Bool.false_eq_true, if_false]; exact h
/-- two operations that are apart change places -/
theorem opR_put {j : Nat} {oi oj : Oper} {v : Value} (hj : ops[j]? = some oj) (hap : oi.apart ops oj = true) (hsi : ∀ cs b, oi.op ≠ .select cs b) (hsj : ∀ cs b, oj.op ≠ .select cs b)
    (hQ : ∀ c a w, Q (.panic c) (a.put oi.dst v) w → Q (.panic c) a w) {K : Act → World → Prop} {a : Act} {w : World} (hy : YieldsIf P ops S oi v a) (h : opR P ops Q j K (a.put oi.dst v) w) :
    opR P ops Q j (fun a' w' => YieldsIf P ops S oi v a' ∧ K (a'.put oi.dst v) w') a w := by
  obtain ⟨h1, h2, h3⟩ := Oper.apart_spec hap
  have keep : ∀ u, YieldsIf P ops S oi v (a.put oj.dst u) := fun u => hy.of_same (execOp_put oi hsi a oj.dst u h3) (wanted_put oi a oj.dst u h3)
  unfold opR at *
  simp only [hj] at *
  rw [wanted_put oj a oi.dst v h1] at h
  split <;> rename_i hw <;> simp only [hw] at h
  · replace h : oj.wp P (a.put oi.dst v) w K Q := h
    unfold Oper.wp at *
    rw [execOp_put oj hsj a oi.dst v h1] at h
    generalize (execOp a.eval oj).run P w = r at *
    cases r with
    | ok n w' =>
      cases n <;> simp only [Oper.upon] at h ⊢
      case value u => exact ⟨keep u, by rw [← Act.put_comm a v u h2]; exact h⟩
      case skip => exact ⟨keep _, by rw [← Act.put_comm a v undef h2]; exact h⟩
      case defer d =>
        have kd : YieldsIf P ops S oi v { a with defers := d :: a.defers } := hy.of_same rfl rfl
        refine ⟨kd.of_same (execOp_put oi hsi _ oj.dst _ h3) (wanted_put oi _ oj.dst _ h3), ?_⟩
        rw [← Act.put_comm _ v undef h2, ← Act.put_defers]
        exact h
      case enter f args =>
        refine Calls.mono h fun e w'' he => ?_
        cases e with
        | returned u => exact ⟨keep u, by rw [← Act.put_comm a v u h2]; exact he⟩
        | panicked c => exact hQ _ _ _ he
        | outgrown => exact he
      case row row args => exact Rows.mono h fun u w'' he => ⟨keep u, by rw [← Act.put_comm a v u h2]; exact he⟩
    | halt x w' =>
      cases x <;> simp only [Oper.upon] at h ⊢
      case panic u => exact hQ _ _ _ h
  · exact ⟨keep _, by rw [← Act.put_comm a v undef h2]; exact h⟩
theorem hl_first {i : Nat} {oi : Oper} {v : Value} (hi : ops[i]? = some oi) (hsel : ∀ (j : Nat) (o : Oper) cs b, ops[j]? = some o → o.op ≠ .select cs b)
    (hQ : ∀ c a w, Q (.panic c) (a.put oi.dst v) w → Q (.panic c) a w) (htw : ∀ ot, ops[t]? = some ot → ∃ e ∈ ot.after, Region.binds md e = true ∧ e.on = i) :
    ∀ (fuel : Nat) (listed : Array Bool) (a : Act) (w : World),
      (∀ j oj, ops[j]? = some oj → j ≠ i → listed.getD j true = false → (∀ e ∈ oj.after, Region.binds md e = true → e.on ≠ i) → oi.apart ops oj = true) →
      i ∈ Region.ready md ops listed → YieldsIf P ops S oi v a → S w →
      hl P md ops Q S t fuel (listed.setIfInBounds i true) (a.put oi.dst v) w → hl P md ops Q S t (fuel + 1) listed a w := by
  have hun : ∀ {listed : Array Bool}, i ∈ Region.ready md ops listed → listed.getD i false = false := fun {listed} hr => by
    have h0 := (mem_ready.1 hr).1
    rcases Nat.lt_or_ge i listed.size with h' | h'
    · simp [h'] at h0 ⊢; exact h0
    · simp [Array.getElem?_eq_none h'] at h0
  intro fuel
  induction fuel with
  | zero =>
    intro listed a w _ hr hy hS H
    refine ⟨fun h => (by rw [h] at hr; cases hr), fun j hj => ?_⟩
    by_cases hji : j = i
    · subst hji; exact hit hi hy hS ⟨fun _ => hS, H⟩
    · have := ready_mono hj hji
      rw [H.1] at this
      cases this
  | succ fuel ih =>
    intro listed a w hfree hr hy hS H
    refine ⟨fun h => (by rw [h] at hr; cases hr), fun j hj => ?_⟩
    by_cases hji : j = i
    · subst hji; exact hit hi hy hS ⟨fun _ => hS, H⟩
    · have h1 := H.2 j (ready_mono hj hji)
      obtain ⟨hjun, oj, hoj, hall⟩ := mem_ready.1 hj
      have hnot : ∀ e ∈ oj.after, Region.binds md e = true → e.on ≠ i := fun e he hb heq => by
        have h1 := hall e he hb
        rw [heq, hun hr] at h1
        cases h1
      have hjt : j ≠ t := fun e => by
        subst e
        obtain ⟨e, he, hb, heq⟩ := htw oj hoj
        exact hnot e he hb heq
      have h2 := opR_put hoj (hfree j oj hoj hji hjun hnot) (fun cs b => hsel i oi cs b hi) (fun cs b => hsel j oj cs b hoj) hQ hy h1
      have hfree' : ∀ k ok, ops[k]? = some ok → k ≠ i → (listed.setIfInBounds j true).getD k true = false →
          (∀ e ∈ ok.after, Region.binds md e = true → e.on ≠ i) → oi.apart ops ok = true := fun k ok hk hki hk2 hno => by
        refine hfree k ok hk hki ?_ hno
        by_cases hjk : j = k
        · subst hjk; exact hjun
        · rw [getD_set_ne true hjk] at hk2; exact hk2
      refine opR_mono (fun a' w' h3 => ⟨fun _ => h3.2.1 hjt, ih (listed.setIfInBounds j true) a' w' hfree' (ready_mono hr (Ne.symm hji)) h3.1 (h3.2.1 hjt) ?_⟩) h2
      rw [Array.setIfInBounds_comm _ _ hji]
      exact h3.2.2
/-- may number i be met first? -/
def takeB (md : Region.Mode) (ops : Array Oper) (t i : Nat) (listed : Array Bool) : Bool :=
  Region.free md ops listed i && (Region.ready md ops listed).contains i && (match ops[t]? with | some ot => ot.after.any (fun e => Region.binds md e && e.on == i) | none => true)
theorem takeB_last {i : Nat} (h : (match ops[t]? with | some ot => ot.after.any (fun e => Region.binds md e && e.on == i) | none => true) = true) (ot : Oper) (hot : ops[t]? = some ot) : ∃ e ∈ ot.after, Region.binds md e = true ∧ e.on = i := by
  rw [hot] at h
  obtain ⟨e, he, hb⟩ := Array.any_eq_true'.1 h
  simp only [Bool.and_eq_true, beq_iff_eq] at hb
  exact ⟨e, he, hb⟩
theorem hl_take (i : Nat) {oi : Oper} {v : Value} {fuel : Nat} {listed : Array Bool} {a : Act} {w : World} (hs : Region.noSelect ops = true) (hb : takeB md ops t i listed = true) (hi : ops[i]? = some oi)
    (hQ : ∀ c a w, Q (.panic c) (a.put oi.dst v) w → Q (.panic c) a w) (hw : Region.wanted oi (yielded ops a.tmps) = true) (hy : ∀ w, S w → (execOp a.eval oi).run P w = .ok (.value v) w) (hS : S w)
    (h : hl P md ops Q S t fuel (listed.setIfInBounds i true) (a.put oi.dst v) w) : hl P md ops Q S t (fuel + 1) listed a w := by
  simp only [takeB, Bool.and_eq_true] at hb
  obtain ⟨⟨hf, hr⟩, ht⟩ := hb
  exact hl_first hi (Region.noSelect_spec hs) hQ (takeB_last ht) fuel listed a w (Region.free_spec hi hf) (by simpa using hr) (.inl ⟨hw, hy⟩) hS h
theorem hl_skip (i : Nat) {oi : Oper} {fuel : Nat} {listed : Array Bool} {a : Act} {w : World} (hs : Region.noSelect ops = true) (hb : takeB md ops t i listed = true) (hi : ops[i]? = some oi)
    (hQ : ∀ c a w, Q (.panic c) (a.put oi.dst undef) w → Q (.panic c) a w) (hw : Region.wanted oi (yielded ops a.tmps) = false) (hS : S w)
    (h : hl P md ops Q S t fuel (listed.setIfInBounds i true) (a.put oi.dst undef) w) : hl P md ops Q S t (fuel + 1) listed a w := by
  simp only [takeB, Bool.and_eq_true] at hb
  obtain ⟨⟨hf, hr⟩, ht⟩ := hb
  exact hl_first hi (Region.noSelect_spec hs) hQ (takeB_last ht) fuel listed a w (Region.free_spec hi hf) (by simpa using hr) (.inr ⟨hw, rfl⟩) hS h
/-- what is asked behind an operation that is carried out -/
def hlK (K : Act → World → Prop) (Q : Exit → Act → World → Prop) : Exit → Act → World → Prop
  | .normal, a, w => K a w
  | .outgrown, _, _ => False
  | e, a, w => Q e a w
/-- the one that may come up, carried out -/
theorem hl_step0 (i : Nat) {oi : Oper} {fuel : Nat} {listed : Array Bool} {a : Act} {w : World} (hr : Region.ready md ops listed = [i]) (hi : ops[i]? = some oi)
    (h : wpList P ops (hlK (fun a' w' => (i ≠ t → S w') ∧ hl P md ops Q S t fuel (listed.setIfInBounds i true) a' w') Q) [oi] a w) : hl P md ops Q S t (fuel + 1) listed a w := by
  refine ⟨(fun h0 => by rw [hr] at h0; cases h0), fun j hj => ?_⟩
  rw [hr] at hj
  simp only [List.mem_singleton] at hj
  subst hj
  unfold opR
  simp only [hi]
  simp only [wpList] at h
  split <;> rename_i hw
  · rw [if_pos hw] at h
    rcases h with h | ⟨-, h⟩
    · refine wp_leave (Q := hlK (fun a' w' => (j ≠ t → S w') ∧ hl P md ops Q S t fuel (listed.setIfInBounds j true) a' w') Q) (fun _ _ _ h => h) (fun h => ?_) (wp_mono_op (fun _ _ h => h) h)
      simp [LetsOut, hlK] at h
    · simp [LetsOut, hlK] at h
  · rw [if_neg hw] at h; exact h
theorem hl_done {listed : Array Bool} {a : Act} {w : World} (hr : Region.ready md ops listed = []) (h : Q .normal a w) : ∀ fuel, hl P md ops Q S t fuel listed a w
  | 0 => ⟨hr, h⟩
  | fuel + 1 => ⟨fun _ => h, (fun i hi => by rw [hr] at hi; cases hi)⟩
/-- an operation by its number -/
def nth : List Oper → Nat → Option Oper
  | [], _ => none
  | o :: _, 0 => some o
  | _ :: r, n + 1 => nth r n
theorem nth_eq : ∀ (os : List Oper) (i : Nat), nth os i = os[i]?
  | [], _ => by simp [nth]
  | _ :: _, 0 => by simp [nth]
  | _ :: r, n + 1 => by simp [nth, nth_eq r n]
theorem nth_at {os : List Oper} {i : Nat} {o : Oper} (h : nth os i = some o) : os.toArray[i]? = some o := by rw [nth_eq] at h; simpa using h
theorem region_hl (S : World → Prop) (t n : Nat) {id : Nat} {a : Act} {w : World} (hm : P.follows .mixedOrders = true) (hn : ops.size = n) (h : hl P .any ops (NoPanic Q) S t n (List.replicate n false).toArray a w.drew) : (Code.region id ops true).wp P Q a w :=
  wp_region_noPanic (wp_region_any hm (hl.any _ _ _ _ (by rw [hn]; simpa using h)))
theorem region_hl_round (S : World → Prop) (t n : Nat) {id l nF : Nat} {a : Act} {w : World} (hm : P.follows .mixedOrders = true) (hn : ops.size = n) (hd : noDefer ops = true) (h : hl P .any ops (NoPanic Q) S t n (List.replicate n false).toArray a w.drew) : (Code.region id ops true).wpIn (Fence.wide.inRound l) nF P Q a w :=
  wpIn_mono (wpIn_region_any hm (hl.anyIn hd _ _ _ _ (by rw [hn]; simpa using h))) NoPanic.imp
section
variable {os : List Oper}
theorem hl_take_np (i : Nat) {oi : Oper} {v : Value} {fuel : Nat} {listed : Array Bool} {a : Act} {w : World} (hb : takeB md os.toArray t i listed = true) (hs : Region.noSelect os.toArray = true) (hi : nth os i = some oi)
    (hw : Region.wanted oi (yielded os.toArray a.tmps) = true) (hS : S w) (hy : ∀ w, S w → (execOp a.eval oi).run P w = .ok (.value v) w)
    (h : hl P md os.toArray (NoPanic Q) S t fuel (listed.setIfInBounds i true) (a.put oi.dst v) w) : hl P md os.toArray (NoPanic Q) S t (fuel + 1) listed a w :=
  hl_take i hs hb (nth_at hi) (fun _ _ _ h => h) hw hy hS h
theorem hl_skip_np (i : Nat) {oi : Oper} {fuel : Nat} {listed : Array Bool} {a : Act} {w : World} (hb : takeB md os.toArray t i listed = true) (hs : Region.noSelect os.toArray = true) (hi : nth os i = some oi)
    (hw : Region.wanted oi (yielded os.toArray a.tmps) = false) (hS : S w)
    (h : hl P md os.toArray (NoPanic Q) S t fuel (listed.setIfInBounds i true) (a.put oi.dst undef) w) : hl P md os.toArray (NoPanic Q) S t (fuel + 1) listed a w :=
  hl_skip i hs hb (nth_at hi) (fun _ _ _ h => h) hw hS h
/-- the one that may come up, carried out -/
theorem hl_step (i : Nat) {oi : Oper} {fuel : Nat} {listed : Array Bool} {a : Act} {w : World} (hr : Region.ready md os.toArray listed = [i]) (hi : nth os i = some oi)
    (h : wpList P os.toArray (hlK (fun a' w' => (i ≠ t → S w') ∧ hl P md os.toArray Q S t fuel (listed.setIfInBounds i true) a' w') Q) [oi] a w) : hl P md os.toArray Q S t (fuel + 1) listed a w := hl_step0 i hr (nth_at hi) h
/-- .. what follows stands behind a letter -/
theorem hl_stepW (i : Nat) {oi : Oper} {fuel : Nat} {listed : Array Bool} {a : Act} {w : World} (hr : Region.ready md os.toArray listed = [i]) (hi : nth os i = some oi) (hw : Region.wanted oi (yielded os.toArray a.tmps) = true)
    (h : ∀ K : Act → World → Prop, (∀ a' w', (i ≠ t → S w') → hl P md os.toArray Q S t fuel (listed.setIfInBounds i true) a' w' → K a' w') → oi.wp P a w K Q) : hl P md os.toArray Q S t (fuel + 1) listed a w := by
  refine ⟨(fun h0 => by rw [hr] at h0; cases h0), fun j hj => ?_⟩
  rw [hr] at hj
  simp only [List.mem_singleton] at hj
  subst hj
  unfold opR
  simp only [nth_at hi]
  rw [if_pos hw]
  exact h _ (fun _ _ h1 h2 => ⟨h1, h2⟩)
end
end
end Go.Proofs.Ythhmmjpgefinmaa

/- A range over a function whose round's variables lie in blocks of their own. -/
namespace Go.Proofs.Ythhmmjpgefinmaa
set_option linter.unusedVariables false
open Go.RowKit
/-- THE LAW, where the assignment of the round lays new blocks: mk x W is the world behind it -/
theorem range_law2 {α : Type} {P : Program} {g : Operand} {ps : Array Tmp} {assign body : Code} {Q : Exit → Act → World → Prop} {a : Act} {w : World}
    {gf : Nat} {lb : Array Value} (mk : α → World → World) (hmk : ∀ x W, G W (mk x W)) (hg : a.eval g = .func (.func gf) #[] lb) (eg : ∀ args w, (callFunc gf args).run P w = .ok (.enter gf args) w)
    {encs : α → Array Value} {Ro It0 : Nat → Prop} {Done Part : List α → (Nat → Prop) → World → Prop} {OK : List α → α → Prop} {w0 : World} (hseq : Seq P gf lb encs Ro It0 Done Part OK w0)
    (hw0 : G w0 w) (hIt0 : ∀ k, It0 k → k < w.heap.size) (hRo : ∀ k, Ro k → k < w.heap.size) (hps : ∀ x, (encs x).size = ps.size)
    (I : List α → (Nat → Prop) → World → Prop) (Ix : Code → List α → (Nat → Prop) → World → Prop) (hI : ∀ p, Stable (I p)) (hIx : ∀ c p, Stable (Ix c p)) (h0 : I [] It0 w)
    (a₁ : α → World → Act)
    (hassign : ∀ (l : Nat) (x : α) (W : World) (K : Act → World → Prop), K (a₁ x W) (mk x W) →
      assign.wpIn (Fence.wide.inRound l) 2 P (Exit.then K (fun _ _ _ => False)) { tmps := (ps.zip (encs x)).foldl (fun t (p, v) => t.setIfInBounds p v) a.tmps, defers := [] } W)
    (hbody : ∀ (l : Nat) (pre : List α) (x : α) (Fo : Nat → Prop) (W0 W : World), W0.heap.size ≤ W.heap.size → w.heap.size + 2 ≤ W0.heap.size → Fr (fun k => k = w.heap.size + 1) (mk x W0) W → (∀ k, Fo k → It0 k ∨ w.heap.size ≤ k) → (∀ k, Fo k → k < W.heap.size) → w.heap.size ≤ W.heap.size → I pre Fo W → OK pre x →
      body.wpIn (Fence.wide.inRound l) 2 P (bodyOut Ro I Ix (pre ++ [x]) Fo W) (a₁ x W0) W)
    (hdone : ∀ (D : Nat) (xs : List α) (It Fo : Nat → Prop) (W W3 : World), w.heap.size ≤ D → D < W.heap.size → (∀ k, It k → Fo k) → Fo D → (∀ k, It k → It0 k ∨ w.heap.size < k) → (∀ k, Fo k → It0 k ∨ w.heap.size ≤ k) → Done xs It W3 → Fr (fun k => k = w.heap.size + 1) W3 W → I xs Fo W → W.heap[D]? = some (.deferred (some [])) →
      Q .normal { a with defers := { target := .collected D, args := #[] } :: a.defers } W)
    (hstop : ∀ (D : Nat) (c : Code) (pre : List α) (It Fo : Nat → Prop) (W W3 : World), w.heap.size ≤ D → D < W.heap.size → (∀ k, It k → Fo k) → Fo D → (∀ k, It k → It0 k ∨ w.heap.size < k) → (∀ k, Fo k → It0 k ∨ w.heap.size ≤ k) → Part pre It W3 → Fr (fun k => k = w.heap.size + 1) W3 W → Ix c pre Fo W → W.heap[D]? = some (.deferred (some [])) →
      c.wpIn Fence.wide 3 P Q { a with defers := { target := .collected D, args := #[] } :: a.defers } W) :
    (Code.rangeFunc g ps assign body).wpIn Fence.wide 3 P Q a w := by
  refine wpIn_rangeFunc ?_
  intro fn hfn
  show ∃ _, _
  obtain ⟨rec, hrec⟩ : ∃ rec : LoopState → Option Code → Loop, rec = fun st pe => { state := st, pending := pe, fn, tmps := a.tmps, params := ps, assign, body, defers := w.heap.size } := ⟨_, rfl⟩
  obtain ⟨W1, hW1⟩ : ∃ W1, (w.alloc (.deferred (some []))).alloc (.loop (rec .ready none)) = W1 := ⟨_, rfl⟩
  have hL1 : W1.heap[w.heap.size + 1]? = some (.loop (rec .ready none)) := by
    rw [← hW1]; have := World.alloc_heap_new (w.alloc (.deferred (some []))) (.loop (rec .ready none)); rwa [World.size_alloc] at this
  have hK1 : W1.heap[w.heap.size]? = some (.deferred (some [])) := by
    rw [← hW1]; exact (Below.heap_alloc _ _ _ (by simp)).trans (World.alloc_heap_new w _)
  have hs1 : W1.heap.size = w.heap.size + 2 := by rw [← hW1]; simp
  have hG1 : G w W1 := by rw [← hW1]; exact ((G.refl w).alloc _).alloc _
  -- the caller's own blocks of book-keeping
  let fo : (Nat → Prop) → Nat → Prop := fun It k => It k ∨ k = w.heap.size ∨ k = w.heap.size + 1
  have hI1 : I [] (fo It0) W1 := hI [] It0 (fo It0) w W1 h0 (fun k hk => .inl hk) (fun k hk => hk.elim .inl (fun h => .inr (by omega))) (hG1.fr _)
  refine ⟨w.heap.size + 1, [{ target := .collected w.heap.size, args := #[] }], W1, { target := .fn (.func gf) lb, args := #[.func (.yield (w.heap.size + 1)) #[] #[]] }, W1, gf,
    #[.func (.yield (w.heap.size + 1)) #[] #[]] ++ lb, W1, ?_, ?_, ?_, ?_, fun h => by simp [Fence.wide] at h, ?_⟩
  · rw [← hW1, hrec]; exact run_enterLoop_outer _ _ _ _ _
  · simp only [resolve, hg]
    simp [go_sem]
  · intro f' _; trivial
  · simp [invoke, go_sem, eg]
  · -- J: the body's invariant, with the two blocks of book-keeping
    have hJs : ∀ (B : (Nat → Prop) → World → Prop) (st : LoopState) (pe : Option Code), Stable B → Stable (fun It W => B (fo It) W ∧ (∀ k, It k → It0 k ∨ w.heap.size + 2 ≤ k) ∧ w.heap.size + 2 ≤ W.heap.size ∧ W.heap[w.heap.size + 1]? = some (.loop (rec st pe)) ∧ W.heap[w.heap.size]? = some (.deferred (some []))) := by
      intro B st pe hB Fo Fo' W W' ⟨h1, h2, h3, h4, h5⟩ hsub hnew hfr
      have hn0 : ¬ Fo (w.heap.size + 1) := fun h => (h2 _ h).elim (fun h => absurd (hIt0 _ h) (by omega)) (fun h => by omega)
      have hn1 : ¬ Fo w.heap.size := fun h => (h2 _ h).elim (fun h => absurd (hIt0 _ h) (by omega)) (fun h => by omega)
      refine ⟨hB (fo Fo) (fo Fo') W W' h1 (fun k hk => hk.imp (hsub k) id) (fun k hk => hk.elim (fun hk => (hnew k hk).imp .inl id) (fun hk => .inl (.inr hk))) (hfr.mono (fun i hi => .inl hi)),
        fun k hk => (hnew k hk).elim (h2 k) (fun h => .inr (by omega)), Nat.le_trans h3 hfr.size, (hfr.block _ (by omega) hn0).trans h4, (hfr.block _ (by omega) hn1).trans h5⟩
    refine CallsIn.mono (callsIn_wide.2 (hseq (w.heap.size + 1)
      (fun pre It W => I pre (fo It) W ∧ (∀ k, It k → It0 k ∨ w.heap.size + 2 ≤ k) ∧ w.heap.size + 2 ≤ W.heap.size ∧ W.heap[w.heap.size + 1]? = some (.loop (rec .ready none)) ∧ W.heap[w.heap.size]? = some (.deferred (some [])))
      (fun pre It W => ∃ c, Ix c pre (fo It) W ∧ (∀ k, It k → It0 k ∨ w.heap.size + 2 ≤ k) ∧ w.heap.size + 2 ≤ W.heap.size ∧ W.heap[w.heap.size + 1]? = some (.loop (rec .done (some c))) ∧ W.heap[w.heap.size]? = some (.deferred (some [])))
      W1 (hw0.trans hG1) (fun p => hJs _ _ _ (hI p))
      (fun p Fo Fo' W W' h a b c => by obtain ⟨cd, h⟩ := h; exact ⟨cd, hJs _ .done (some cd) (hIx cd p) Fo Fo' W W' h a b c⟩)
      ?_ ⟨hI1, fun k hk => .inl hk, by omega, hL1, hK1⟩)) ?_
    · -- ONE ROUND
      rintro pre x It W hItx hlt hsz ⟨hi, h2, h3, hl, hk⟩ hok
      have hy := run_yield (P := P) (args := encs x) hl (by rw [hrec]; exact hps x)
      rw [hrec] at hy
      have hgm := hmk x W
      have hzm := hgm.size
      obtain ⟨Wm, hWm⟩ : ∃ Wm, mk x W = Wm := ⟨_, rfl⟩
      rw [hWm] at hgm hzm
      have hlm := (hgm.block (k := w.heap.size + 1) (by omega)).trans hl
      have hkm := (hgm.block (k := w.heap.size) (by omega)).trans hk
      refine ⟨fn, _, assign, body, hy, roundIn_of_wpIn hfn (hassign _ x W _ ?_)⟩
      rw [hWm]
      refine ⟨_, run_beginRound hlm (by rw [hrec]), ?_⟩
      have hfol : fo It (w.heap.size + 1) := .inr (.inr rfl)
      have hfoD : fo It w.heap.size := .inr (.inl rfl)
      obtain ⟨W2, hW2⟩ : ∃ W2, (Wm.putObj (w.heap.size + 1) (.loop { rec .ready none with state := .busy })) = W2 := ⟨_, rfl⟩
      have hl2 : W2.heap[w.heap.size + 1]? = some (.loop { rec .ready none with state := .busy }) := by rw [← hW2]; exact World.putObj_heap_same (by omega)
      have hk2 : W2.heap[w.heap.size]? = some (.deferred (some [])) := by rw [← hW2]; exact (World.putObj_heap_other (by omega)).trans hkm
      have hfm : Fr (fun k => k = w.heap.size + 1) Wm W2 := by rw [← hW2]; exact putObj_fr _ _ _
      have hf2 : Fr (fun k => k = w.heap.size + 1) W W2 := (hgm.fr _).trans hfm (fun _ _ h => h)
      have hs2 : W2.heap.size = Wm.heap.size := by rw [← hW2]; simp
      have hi2 : I pre (fo It) W2 := hI pre _ _ _ _ hi (fun _ h => h) (fun _ h => .inl h) (hf2.mono (fun i e => by subst e; exact hfol))
      show Code.wpIn _ _ _ _ _ _ (Wm.putObj (w.heap.size + 1) (.loop { rec .ready none with state := .busy }))
      rw [hW2]
      refine wpIn_mono (hbody _ pre x (fo It) W W2 (by omega) (by omega) (by rw [hWm]; exact hfm) (fun k hk => hk.elim (fun hk => (h2 k hk).imp id (fun h => by omega)) (fun hk => .inr (by omega)))
        (fun k hk => by rw [hs2]; exact hk.elim (fun h => Nat.lt_of_lt_of_le (hlt k h) hzm) (fun h => by omega)) (by omega) hi2 hok) ?_
      have fin : ∀ (jump : Option Code) (W3 : World), Fr (fun k => ¬ (fo It k ∨ Ro k)) W2 W3 →
          (Instr.endRound (w.heap.size + 1) jump).run P W3 = .ok (.bool jump.isNone) (W3.putObj (w.heap.size + 1) (.loop (rec (if jump.isNone then .ready else .done) jump))) ∧
          Fr (fun k => ¬ (It k ∨ Ro k)) W (W3.putObj (w.heap.size + 1) (.loop (rec (if jump.isNone then .ready else .done) jump))) ∧
          (∀ B : (Nat → Prop) → World → Prop, Stable B → B (fo It) W3 → B (fo It) (W3.putObj (w.heap.size + 1) (.loop (rec (if jump.isNone then .ready else .done) jump)))) ∧
          w.heap.size + 2 ≤ (W3.putObj (w.heap.size + 1) (.loop (rec (if jump.isNone then .ready else .done) jump))).heap.size ∧
          (W3.putObj (w.heap.size + 1) (.loop (rec (if jump.isNone then .ready else .done) jump))).heap[w.heap.size + 1]? = some (.loop (rec (if jump.isNone then .ready else .done) jump)) ∧
          (W3.putObj (w.heap.size + 1) (.loop (rec (if jump.isNone then .ready else .done) jump))).heap[w.heap.size]? = some (.deferred (some [])) := fun jump W3 hk3 => by
        have hl3 := (hk3.block _ (by omega) (fun h => h (.inl hfol))).trans hl2
        have hd3 := (hk3.block _ (by omega) (fun h => h (.inl hfoD))).trans hk2
        have hz := hk3.size
        have := run_endRound (P := P) jump hl3
        rw [hrec] at this ⊢
        refine ⟨this, ?_, fun B hB hb => hB _ _ _ _ hb (fun _ h => h) (fun _ h => .inl h) ((putObj_fr _ _ _).mono (fun i e => by subst e; exact hfol)), by simp; omega, World.putObj_heap_same (by omega), (World.putObj_heap_other (by omega)).trans hd3⟩
        have hnl : ∀ i, i = w.heap.size + 1 → ¬ (It i ∨ Ro i) := by
          rintro i rfl (h | h)
          · exact (h2 _ h).elim (fun h => absurd (hIt0 _ h) (by omega)) (fun h => by omega)
          · exact absurd (hRo _ h) (by omega)
        refine (hf2.mono hnl).trans (T := fun k => ¬ (It k ∨ Ro k)) ((hk3.mono (fun i hi (hn : It i ∨ Ro i) => hi (hn.imp .inl id))).trans (T := fun k => k = w.heap.size + 1) (putObj_fr _ _ _) (fun i _ e => hnl i e)) (fun _ _ h => h)
      rintro e a3 W3 hp
      cases e with
      | normal =>
        obtain ⟨hk3, hi3⟩ := hp
        obtain ⟨hr, hf, hB, hz, hl4, hk4⟩ := fin none W3 hk3
        exact ⟨_, _, hr, hf, .inl ⟨rfl, hB _ (hI _) hi3, h2, hz, hl4, hk4⟩⟩
      | ret =>
        obtain ⟨hk3, hi3⟩ := hp
        obtain ⟨hr, hf, hB, hz, hl4, hk4⟩ := fin (some .ret) W3 hk3
        exact ⟨_, _, hr, hf, .inr ⟨rfl, .ret, hB _ (hIx _ _) hi3, h2, hz, hl4, hk4⟩⟩
      | exit id =>
        obtain ⟨hk3, hi3⟩ := hp
        obtain ⟨hr, hf, hB, hz, hl4, hk4⟩ := fin (some (.exit id)) W3 hk3
        exact ⟨_, _, hr, hf, .inr ⟨rfl, .exit id, hB _ (hIx _ _) hi3, h2, hz, hl4, hk4⟩⟩
      | goto t =>
        obtain ⟨hk3, hi3⟩ := hp
        obtain ⟨hr, hf, hB, hz, hl4, hk4⟩ := fin (some (.goto t)) W3 hk3
        exact ⟨_, _, hr, hf, .inr ⟨rfl, .goto t, hB _ (hIx _ _) hi3, h2, hz, hl4, hk4⟩⟩
      | panic ch => exact hp.elim
      | outgrown => exact hp.elim
    · -- BEHIND THE ITERATOR
      have hfoi : ∀ (It : Nat → Prop), (∀ k, It k → It0 k ∨ w.heap.size + 2 ≤ k) → ∀ k, fo It k → It0 k ∨ w.heap.size ≤ k := fun It h k hk =>
        hk.elim (fun hk => (h k hk).imp id (fun h => by omega)) (fun hk => .inr (by omega))
      rintro e W2 ⟨⟨v, rfl⟩, It, hsub, hnew, (⟨xs, ⟨hi, h2, h3, hl, hk⟩, hD⟩ | ⟨pre, ⟨c, hi, h2, h3, hl, hk⟩, hP⟩)⟩
      · refine ⟨none, _, by have := run_endLoop (P := P) hl (by rw [hrec]; simp); rw [hrec] at this; exact this, ?_⟩
        exact hdone w.heap.size xs It (fo It) _ W2 (Nat.le_refl _) (by simp; omega) (fun k h => .inl h) (.inr (.inl rfl)) (fun k h => (h2 k h).imp id (fun h => by omega)) (hfoi It h2) hD (putObj_fr _ _ _)
          (hI _ _ _ _ _ hi (fun _ h => h) (fun _ h => .inl h) ((putObj_fr _ _ _).mono (fun i e => by subst e; exact .inr (.inr rfl)))) ((World.putObj_heap_other (by omega)).trans hk)
      · refine ⟨some c, _, by have := run_endLoop (P := P) hl (by rw [hrec]; simp); rw [hrec] at this; exact this, ?_⟩
        exact hstop w.heap.size c pre It (fo It) _ W2 (Nat.le_refl _) (by simp; omega) (fun k h => .inl h) (.inr (.inl rfl)) (fun k h => (h2 k h).imp id (fun h => by omega)) (hfoi It h2) hP (putObj_fr _ _ _)
          (hIx _ _ _ _ _ _ hi (fun _ h => h) (fun _ h => .inl h) ((putObj_fr _ _ _).mono (fun i e => by subst e; exact .inr (.inr rfl)))) ((World.putObj_heap_other (by omega)).trans hk)

/-- THE LAW, in the plain walk -/
theorem range_wp2 {α : Type} {P : Program} {g : Operand} {ps : Array Tmp} {assign body : Code} {Q : Exit → Act → World → Prop} {a : Act} {w : World}
    {gf : Nat} {lb : Array Value} (mk : α → World → World) (hmk : ∀ x W, G W (mk x W)) (hg : a.eval g = .func (.func gf) #[] lb) (eg : ∀ args w, (callFunc gf args).run P w = .ok (.enter gf args) w)
    {encs : α → Array Value} {Ro It0 : Nat → Prop} {Done Part : List α → (Nat → Prop) → World → Prop} {OK : List α → α → Prop} {w0 : World} (hseq : Seq P gf lb encs Ro It0 Done Part OK w0)
    (hw0 : G w0 w) (hIt0 : ∀ k, It0 k → k < w.heap.size) (hRo : ∀ k, Ro k → k < w.heap.size) (hps : ∀ x, (encs x).size = ps.size)
    (I : List α → (Nat → Prop) → World → Prop) (Ix : Code → List α → (Nat → Prop) → World → Prop) (hI : ∀ p, Stable (I p)) (hIx : ∀ c p, Stable (Ix c p)) (h0 : I [] It0 w)
    (a₁ : α → World → Act)
    (hassign : ∀ (l : Nat) (x : α) (W : World) (K : Act → World → Prop), K (a₁ x W) (mk x W) →
      assign.wpIn (Fence.wide.inRound l) 2 P (Exit.then K (fun _ _ _ => False)) { tmps := (ps.zip (encs x)).foldl (fun t (p, v) => t.setIfInBounds p v) a.tmps, defers := [] } W)
    (hbody : ∀ (l : Nat) (pre : List α) (x : α) (Fo : Nat → Prop) (W0 W : World), W0.heap.size ≤ W.heap.size → w.heap.size + 2 ≤ W0.heap.size → Fr (fun k => k = w.heap.size + 1) (mk x W0) W → (∀ k, Fo k → It0 k ∨ w.heap.size ≤ k) → (∀ k, Fo k → k < W.heap.size) → w.heap.size ≤ W.heap.size → I pre Fo W → OK pre x →
      body.wpIn (Fence.wide.inRound l) 2 P (bodyOut Ro I Ix (pre ++ [x]) Fo W) (a₁ x W0) W)
    (hdone : ∀ (D : Nat) (xs : List α) (It Fo : Nat → Prop) (W W3 : World), w.heap.size ≤ D → D < W.heap.size → (∀ k, It k → Fo k) → Fo D → (∀ k, It k → It0 k ∨ w.heap.size < k) → (∀ k, Fo k → It0 k ∨ w.heap.size ≤ k) → Done xs It W3 → Fr (fun k => k = w.heap.size + 1) W3 W → I xs Fo W → W.heap[D]? = some (.deferred (some [])) →
      Q .normal { a with defers := { target := .collected D, args := #[] } :: a.defers } W)
    (hstop : ∀ (D : Nat) (c : Code) (pre : List α) (It Fo : Nat → Prop) (W W3 : World), w.heap.size ≤ D → D < W.heap.size → (∀ k, It k → Fo k) → Fo D → (∀ k, It k → It0 k ∨ w.heap.size < k) → (∀ k, Fo k → It0 k ∨ w.heap.size ≤ k) → Part pre It W3 → Fr (fun k => k = w.heap.size + 1) W3 W → Ix c pre Fo W → W.heap[D]? = some (.deferred (some [])) →
      c.wp P Q { a with defers := { target := .collected D, args := #[] } :: a.defers } W) :
    (Code.rangeFunc g ps assign body).wp P Q a w :=
  wpIn_wide.1 (range_law2 mk hmk hg eg hseq hw0 hIt0 hRo hps I Ix hI hIx h0 a₁ hassign hbody hdone (fun D c pre It Fo W W3 h1 h2 h3 h4 h5 h6 h7 h8 h9 h10 => wpIn_wide.2 (hstop D c pre It Fo W W3 h1 h2 h3 h4 h5 h6 h7 h8 h9 h10)))
end Go.Proofs.Ythhmmjpgefinmaa

/- a law's row out of its walk -/
namespace Go.Proofs.Ythhmmjpgefinmaa
set_option linter.unusedVariables false
open Go.RowKit Go.ChangeShapes Go.WideShapes

theorem trodAll_stays {H : Type} {enc : TypeId × Value → H} {P : Program} (hl : laidOutB P = true) {W W' : World} (hb : G W W') : ∀ {ts : List TypeId} {vs : List Value} {ds : List (DataW H)} {ps : List MemPlace},
    (∀ t ∈ ts, P.readableRec t = true ∧ t < P.types.size) → DataW.TrodAll enc P W 0 (fun _ => true) true ts vs ds ps → (∀ x ∈ ps, x.block < W.heap.size) → DataW.TrodAll enc P W' 0 (fun b => decide (b < W.heap.size)) true ts vs ds ps
  | [], [], [], ps, _, h, _ => h
  | t :: ts, v :: vs, d :: ds, ps, ht, h, hlt => by
    obtain ⟨p, q, h1, h2, rfl⟩ := h
    exact ⟨p, q, Below.trod hl (ht t (by simp)).1 (ht t (by simp)).2 h1 hb (fun x hx => hlt x (by simp [hx])), trodAll_stays hl hb (fun t' h' => ht t' (by simp [h'])) h2 (fun x hx => hlt x (by simp [hx])), rfl⟩
  | [], [], _ :: _, _, _, h, _ => h.elim
  | [], _ :: _, _, _, _, h, _ => h.elim
  | _ :: _, [], _, _, _, h, _ => h.elim
  | _ :: _, _ :: _, [], _, _, h, _ => h.elim

/-- what lay lies as it lay, and the answer is true: that is the law's row -/
theorem post_true {H : Type} {enc : TypeId × Value → H} {P : Program} {f : Func} {s : ChangeSpec} {W W' : World} {args : Array Value} {ds gs : List (DataW H)} {before : List MemPlace} {tb : TypeId}
    (hl : laidOutB P = true) (hts : ∀ t ∈ f.params.toList, P.readableRec t = true ∧ t < P.types.size) (hW : DataW.Whole enc P f.params.toList s.vars false W args.toList ds gs before) (hv : s.vars = [])
    (hr : f.resultTypes = #[tb]) (hb : P.underlying tb = some .bool) (hfn : (s.fn H (ds ++ gs)).results = [.lit (.bool true)]) (hfa : (s.fn H (ds ++ gs)).args = ds) (hfv : (s.fn H (ds ++ gs)).vars = []) (hg : G W W') :
    s.post enc P f false true false false W args (.bool true) W' := by
  have hW' := hW
  obtain ⟨p, q, hA, hV, hbe, hfz, hnd⟩ := hW
  have hlt : ∀ x ∈ before, x.block < W.heap.size := fun x hx => by have := hW'.lt x hx; simpa using this
  rw [hv] at hV
  have hq : q = [] := by cases gs with
    | nil => exact hV
    | cons _ _ => exact hV.elim
  subst hq
  refine ⟨ds, gs, before, [], before, [], hW', ?_, ?_, ?_, hg.frame _, fun h => by cases h⟩
  · rw [hfn, hr]
    exact ⟨[], [], shut_bool hb true, rfl, rfl⟩
  · rw [hfa]
    simp only [List.append_nil] at hbe
    subst hbe
    exact trodAll_stays hl hg hts hA hlt
  · rw [hfv, hv]; rfl
end Go.Proofs.Ythhmmjpgefinmaa
