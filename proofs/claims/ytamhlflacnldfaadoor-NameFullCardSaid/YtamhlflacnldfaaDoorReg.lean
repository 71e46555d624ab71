/- A region that draws its order: loads and the like are met first, in whatever world of a class S; what writes comes in its one order; behind the last one nothing is asked of S. In the plain walk and in a round. -/
import Derived.Test.YtamhlflacnldfaaDoorRound
import Derived.OrdersHeld
import Derived.Deep.RegionHeld3
namespace Go.Proofs.YtamhlflacnldfaaDoor
set_option linter.unusedVariables false
open Go.RowKit
section
variable {P : Program} {ops : Array Oper} {Q : Exit → Act → World → Prop} {md : Region.Mode} {S : World → Prop} {t : Nat}
/-- operation number i comes up -/
def opR (P : Program) (ops : Array Oper) (Q : Exit → Act → World → Prop) (i : Nat) (K : Act → World → Prop) (a : Act) (w : World) : Prop :=
  match ops[i]? with
  | none => K a w
  | some o => if Region.wanted o (yielded ops a.tmps) = true then o.wp P a w K Q else K (a.put o.dst undef) w
theorem opR.plain {i : Nat} {K : Act → World → Prop} {a : Act} {w : World} (h : opR P ops Q i K a w) : wpOp P ops Q i K a w := by
  unfold opR at h; unfold wpOp
  split <;> rename_i o <;> simp only [o] at h
  · exact h
  · split <;> rename_i hw <;> simp only [hw] at h
    · exact .inl h
    · exact h
theorem wp_mono_op {o : Oper} {a : Act} {w : World} {K K' : Act → World → Prop} (hK : ∀ a w, K a w → K' a w) (h : o.wp P a w K Q) : o.wp P a w K' Q := by
  unfold Oper.wp at *
  generalize (execOp a.eval o).run P w = r at *
  cases r with
  | ok n w' =>
    cases n <;> simp only [Oper.upon] at h ⊢
    case value u => exact hK _ _ h
    case skip => exact hK _ _ h
    case defer d => exact hK _ _ h
    case enter f args =>
      refine Calls.mono h fun e w'' he => ?_
      cases e with
      | returned u => exact hK _ _ he
      | panicked c => exact he
      | outgrown => exact he
    case row row args => exact Rows.mono h fun u w'' he => hK _ _ he
  | halt x w' => cases x <;> simp only [Oper.upon] at h ⊢ <;> exact h
theorem wp_leave {o : Oper} {a : Act} {w : World} {K : Act → World → Prop} {Q' : Exit → Act → World → Prop} (hQ : ∀ c a w, Q (.panic c) a w → Q' (.panic c) a w) (hL : LetsOut Q → LetsOut Q') (h : o.wp P a w K Q) : o.wp P a w K Q' := by
  unfold Oper.wp at *
  generalize (execOp a.eval o).run P w = r at *
  cases r with
  | ok n w' =>
    cases n <;> simp only [Oper.upon] at h ⊢
    case value u => exact h
    case skip => exact h
    case defer d => exact h
    case enter f args =>
      refine Calls.mono h fun e w'' he => ?_
      cases e with
      | returned u => exact he
      | panicked c => exact hQ _ _ _ he
      | outgrown => exact hL he
    case row row args => exact h
  | halt x w' =>
    cases x <;> simp only [Oper.upon] at h ⊢
    case panic u => exact hQ _ _ _ h
theorem opR_mono {i : Nat} {K K' : Act → World → Prop} {a : Act} {w : World} (hK : ∀ a w, K a w → K' a w) (h : opR P ops Q i K a w) : opR P ops Q i K' a w := by
  unfold opR at *
  split <;> rename_i o <;> simp only [o] at h
  · exact hK _ _ h
  · split <;> rename_i hw <;> simp only [hw] at h
    · exact wp_mono_op hK h
    · exact hK _ _ h
theorem wpIn_of_wp {o : Oper} {l n : Nat} (hd : ∀ c, o.op ≠ .defer c) {a : Act} {w : World} {K : Act → World → Prop} (h : o.wp P a w K Q) : o.wpIn (Fence.wide.inRound l) n P a w K Q := by
  unfold Oper.wp at h; unfold Oper.wpIn
  refine ⟨fun _ _ => trivial, ?_⟩
  rw [Oper.semAt_eq _ _ _ hd]
  generalize (execOp a.eval o).run P w = r at *
  cases r with
  | ok x w' =>
    cases x <;> simp only [Oper.upon] at h <;> simp only [Oper.uponIn]
    case value u => exact h
    case skip => exact h
    case defer d => exact h
    case enter f args => exact ⟨fun h => by simp [Fence.wide] at h, CallsIn.inRound l (callsIn_wide.2 h)⟩
    case row row args =>
      refine ⟨fun h => by simp [Fence.wide] at h, fun c cs _ => ?_⟩
      obtain ⟨v, w'', h1, h2⟩ := h c cs
      exact ⟨v, w'', h1, stepsIn_wide.2 h2⟩
  | halt x w' => cases x <;> simp only [Oper.upon] at h <;> simp only [Oper.uponIn] <;> exact h
theorem opR.round {l n : Nat} (hd : noDefer ops = true) {i : Nat} {K : Act → World → Prop} {a : Act} {w : World} (h : opR P ops Q i K a w) : wpOpIn (Fence.wide.inRound l) n P ops Q i K a w := by
  unfold opR at h; unfold wpOpIn
  split <;> rename_i o <;> simp only [o] at h
  · exact h
  · split <;> rename_i hw <;> simp only [hw] at h
    · exact wpIn_of_wp (noDefer_at hd o) h
    · exact ⟨fun _ _ => trivial, h⟩
/-- the walk: S behind every operation but number t -/
def hl (P : Program) (md : Region.Mode) (ops : Array Oper) (Q : Exit → Act → World → Prop) (S : World → Prop) (t : Nat) : Nat → Array Bool → Act → World → Prop
  | 0, listed, a, w => Region.ready md ops listed = [] ∧ Q .normal a w
  | fuel + 1, listed, a, w => (Region.ready md ops listed = [] → Q .normal a w) ∧
    ∀ i ∈ Region.ready md ops listed, opR P ops Q i (fun a' w' => (i ≠ t → S w') ∧ hl P md ops Q S t fuel (listed.setIfInBounds i true) a' w') a w
theorem hl.any : ∀ (fuel : Nat) (listed : Array Bool) (a : Act) (w : World), hl P md ops Q S t fuel listed a w → wpAny P md ops Q fuel listed a w
  | 0, _, _, _, h => h
  | fuel + 1, _, _, _, h => ⟨h.1, fun i hi => wpOp_mono (fun a' w' h' => hl.any fuel _ a' w' h'.2) (h.2 i hi).plain⟩
theorem hl.anyIn {l n : Nat} (hd : noDefer ops = true) : ∀ (fuel : Nat) (listed : Array Bool) (a : Act) (w : World), hl P md ops Q S t fuel listed a w → wpAnyIn (Fence.wide.inRound l) n P md ops Q fuel listed a w
  | 0, _, _, _, h => h
  | fuel + 1, _, _, _, h => ⟨h.1, fun i hi => wpOpIn_mono (fun a' w' h' => hl.anyIn hd fuel _ a' w' h'.2) ((h.2 i hi).round hd)⟩
theorem hit {i : Nat} {o : Oper} {v : Value} {a : Act} (hi : ops[i]? = some o) (hy : YieldsIf P ops S o v a) {K : Act → World → Prop} {w : World} (hS : S w) (h : K (a.put o.dst v) w) : opR P ops Q i K a w := by
  unfold opR
  simp only [hi]
  rcases hy with ⟨hw, hv⟩ | ⟨hw, rfl⟩
  · simp only [hw, if_true, Oper.wp, hv w hS, Oper.upon]; exact h
  · simp only [hw, Bool.false_eq_true, if_false]; exact h
/-- two operations that are apart change places -/
theorem opR_put {j : Nat} {oi oj : Oper} {v : Value} (hj : ops[j]? = some oj) (hap : oi.apart ops oj = true) (hsi : ∀ cs b, oi.op ≠ .select cs b) (hsj : ∀ cs b, oj.op ≠ .select cs b)
    (hQ : ∀ c a w, Q (.panic c) (a.put oi.dst v) w → Q (.panic c) a w) {K : Act → World → Prop} {a : Act} {w : World} (hy : YieldsIf P ops S oi v a) (h : opR P ops Q j K (a.put oi.dst v) w) :
    opR P ops Q j (fun a' w' => YieldsIf P ops S oi v a' ∧ K (a'.put oi.dst v) w') a w := by
  obtain ⟨h1, h2, h3⟩ := Oper.apart_spec hap
  have keep : ∀ u, YieldsIf P ops S oi v (a.put oj.dst u) := fun u => hy.of_same (execOp_put oi hsi a oj.dst u h3) (wanted_put oi a oj.dst u h3)
  unfold opR at *
  simp only [hj] at *
  rw [wanted_put oj a oi.dst v h1] at h
  split <;> rename_i hw <;> simp only [hw] at h
  · replace h : oj.wp P (a.put oi.dst v) w K Q := h
    unfold Oper.wp at *
    rw [execOp_put oj hsj a oi.dst v h1] at h
    generalize (execOp a.eval oj).run P w = r at *
    cases r with
    | ok n w' =>
      cases n <;> simp only [Oper.upon] at h ⊢
      case value u => exact ⟨keep u, by rw [← Act.put_comm a v u h2]; exact h⟩
      case skip => exact ⟨keep _, by rw [← Act.put_comm a v undef h2]; exact h⟩
      case defer d =>
        have kd : YieldsIf P ops S oi v { a with defers := d :: a.defers } := hy.of_same rfl rfl
        refine ⟨kd.of_same (execOp_put oi hsi _ oj.dst _ h3) (wanted_put oi _ oj.dst _ h3), ?_⟩
        rw [← Act.put_comm _ v undef h2, ← Act.put_defers]
        exact h
      case enter f args =>
        refine Calls.mono h fun e w'' he => ?_
        cases e with
        | returned u => exact ⟨keep u, by rw [← Act.put_comm a v u h2]; exact he⟩
        | panicked c => exact hQ _ _ _ he
        | outgrown => exact he
      case row row args => exact Rows.mono h fun u w'' he => ⟨keep u, by rw [← Act.put_comm a v u h2]; exact he⟩
    | halt x w' =>
      cases x <;> simp only [Oper.upon] at h ⊢
      case panic u => exact hQ _ _ _ h
  · exact ⟨keep _, by rw [← Act.put_comm a v undef h2]; exact h⟩
theorem hl_first {i : Nat} {oi : Oper} {v : Value} (hi : ops[i]? = some oi) (hsel : ∀ (j : Nat) (o : Oper) cs b, ops[j]? = some o → o.op ≠ .select cs b)
    (hQ : ∀ c a w, Q (.panic c) (a.put oi.dst v) w → Q (.panic c) a w) (htw : ∀ ot, ops[t]? = some ot → ∃ e ∈ ot.after, Region.binds md e = true ∧ e.on = i) :
    ∀ (fuel : Nat) (listed : Array Bool) (a : Act) (w : World),
      (∀ j oj, ops[j]? = some oj → j ≠ i → listed.getD j true = false → (∀ e ∈ oj.after, Region.binds md e = true → e.on ≠ i) → oi.apart ops oj = true) →
      i ∈ Region.ready md ops listed → YieldsIf P ops S oi v a → S w →
      hl P md ops Q S t fuel (listed.setIfInBounds i true) (a.put oi.dst v) w → hl P md ops Q S t (fuel + 1) listed a w := by
  have hun : ∀ {listed : Array Bool}, i ∈ Region.ready md ops listed → listed.getD i false = false := fun {listed} hr => by
    have h0 := (mem_ready.1 hr).1
    rcases Nat.lt_or_ge i listed.size with h' | h'
    · simp [h'] at h0 ⊢; exact h0
    · simp [Array.getElem?_eq_none h'] at h0
  intro fuel
  induction fuel with
  | zero =>
    intro listed a w _ hr hy hS H
    refine ⟨fun h => (by rw [h] at hr; cases hr), fun j hj => ?_⟩
    by_cases hji : j = i
    · subst hji; exact hit hi hy hS ⟨fun _ => hS, H⟩
    · have := ready_mono hj hji
      rw [H.1] at this
      cases this
  | succ fuel ih =>
    intro listed a w hfree hr hy hS H
    refine ⟨fun h => (by rw [h] at hr; cases hr), fun j hj => ?_⟩
    by_cases hji : j = i
    · subst hji; exact hit hi hy hS ⟨fun _ => hS, H⟩
    · have h1 := H.2 j (ready_mono hj hji)
      obtain ⟨hjun, oj, hoj, hall⟩ := mem_ready.1 hj
      have hnot : ∀ e ∈ oj.after, Region.binds md e = true → e.on ≠ i := fun e he hb heq => by
        have h1 := hall e he hb
        rw [heq, hun hr] at h1
        cases h1
      have hjt : j ≠ t := fun e => by
        subst e
        obtain ⟨e, he, hb, heq⟩ := htw oj hoj
        exact hnot e he hb heq
      have h2 := opR_put hoj (hfree j oj hoj hji hjun hnot) (fun cs b => hsel i oi cs b hi) (fun cs b => hsel j oj cs b hoj) hQ hy h1
      have hfree' : ∀ k ok, ops[k]? = some ok → k ≠ i → (listed.setIfInBounds j true).getD k true = false →
          (∀ e ∈ ok.after, Region.binds md e = true → e.on ≠ i) → oi.apart ops ok = true := fun k ok hk hki hk2 hno => by
        refine hfree k ok hk hki ?_ hno
        by_cases hjk : j = k
        · subst hjk; exact hjun
        · rw [getD_set_ne true hjk] at hk2; exact hk2
      refine opR_mono (fun a' w' h3 => ⟨fun _ => h3.2.1 hjt, ih (listed.setIfInBounds j true) a' w' hfree' (ready_mono hr (Ne.symm hji)) h3.1 (h3.2.1 hjt) ?_⟩) h2
      rw [Array.setIfInBounds_comm _ _ hji]
      exact h3.2.2
/-- may number i be met first? -/
def takeB (md : Region.Mode) (ops : Array Oper) (t i : Nat) (listed : Array Bool) : Bool :=
  Region.free md ops listed i && (Region.ready md ops listed).contains i && (match ops[t]? with | some ot => ot.after.any (fun e => Region.binds md e && e.on == i) | none => true)
theorem takeB_last {i : Nat} (h : (match ops[t]? with | some ot => ot.after.any (fun e => Region.binds md e && e.on == i) | none => true) = true) (ot : Oper) (hot : ops[t]? = some ot) : ∃ e ∈ ot.after, Region.binds md e = true ∧ e.on = i := by
  rw [hot] at h
  obtain ⟨e, he, hb⟩ := Array.any_eq_true'.1 h
  simp only [Bool.and_eq_true, beq_iff_eq] at hb
  exact ⟨e, he, hb⟩
theorem hl_take (i : Nat) {oi : Oper} {v : Value} {fuel : Nat} {listed : Array Bool} {a : Act} {w : World} (hs : Region.noSelect ops = true) (hb : takeB md ops t i listed = true) (hi : ops[i]? = some oi)
    (hQ : ∀ c a w, Q (.panic c) (a.put oi.dst v) w → Q (.panic c) a w) (hw : Region.wanted oi (yielded ops a.tmps) = true) (hy : ∀ w, S w → (execOp a.eval oi).run P w = .ok (.value v) w) (hS : S w)
    (h : hl P md ops Q S t fuel (listed.setIfInBounds i true) (a.put oi.dst v) w) : hl P md ops Q S t (fuel + 1) listed a w := by
  simp only [takeB, Bool.and_eq_true] at hb
  obtain ⟨⟨hf, hr⟩, ht⟩ := hb
  exact hl_first hi (Region.noSelect_spec hs) hQ (takeB_last ht) fuel listed a w (Region.free_spec hi hf) (by simpa using hr) (.inl ⟨hw, hy⟩) hS h
theorem hl_skip (i : Nat) {oi : Oper} {fuel : Nat} {listed : Array Bool} {a : Act} {w : World} (hs : Region.noSelect ops = true) (hb : takeB md ops t i listed = true) (hi : ops[i]? = some oi)
    (hQ : ∀ c a w, Q (.panic c) (a.put oi.dst undef) w → Q (.panic c) a w) (hw : Region.wanted oi (yielded ops a.tmps) = false) (hS : S w)
    (h : hl P md ops Q S t fuel (listed.setIfInBounds i true) (a.put oi.dst undef) w) : hl P md ops Q S t (fuel + 1) listed a w := by
  simp only [takeB, Bool.and_eq_true] at hb
  obtain ⟨⟨hf, hr⟩, ht⟩ := hb
  exact hl_first hi (Region.noSelect_spec hs) hQ (takeB_last ht) fuel listed a w (Region.free_spec hi hf) (by simpa using hr) (.inr ⟨hw, rfl⟩) hS h
/-- what is asked behind an operation that is carried out -/
def hlK (K : Act → World → Prop) (Q : Exit → Act → World → Prop) : Exit → Act → World → Prop
  | .normal, a, w => K a w
  | .outgrown, _, _ => False
  | e, a, w => Q e a w
/-- the one that may come up, carried out -/
theorem hl_step0 (i : Nat) {oi : Oper} {fuel : Nat} {listed : Array Bool} {a : Act} {w : World} (hr : Region.ready md ops listed = [i]) (hi : ops[i]? = some oi)
    (h : wpList P ops (hlK (fun a' w' => (i ≠ t → S w') ∧ hl P md ops Q S t fuel (listed.setIfInBounds i true) a' w') Q) [oi] a w) : hl P md ops Q S t (fuel + 1) listed a w := by
  refine ⟨(fun h0 => by rw [hr] at h0; cases h0), fun j hj => ?_⟩
  rw [hr] at hj
  simp only [List.mem_singleton] at hj
  subst hj
  unfold opR
  simp only [hi]
  simp only [wpList] at h
  split <;> rename_i hw
  · rw [if_pos hw] at h
    rcases h with h | ⟨-, h⟩
    · refine wp_leave (Q := hlK (fun a' w' => (j ≠ t → S w') ∧ hl P md ops Q S t fuel (listed.setIfInBounds j true) a' w') Q) (fun _ _ _ h => h) (fun h => ?_) (wp_mono_op (fun _ _ h => h) h)
      simp [LetsOut, hlK] at h
    · simp [LetsOut, hlK] at h
  · rw [if_neg hw] at h; exact h
theorem hl_done {listed : Array Bool} {a : Act} {w : World} (hr : Region.ready md ops listed = []) (h : Q .normal a w) : ∀ fuel, hl P md ops Q S t fuel listed a w
  | 0 => ⟨hr, h⟩
  | fuel + 1 => ⟨fun _ => h, (fun i hi => by rw [hr] at hi; cases hi)⟩
/-- an operation by its number -/
def nth : List Oper → Nat → Option Oper
  | [], _ => none
  | o :: _, 0 => some o
  | _ :: r, n + 1 => nth r n
theorem nth_eq : ∀ (os : List Oper) (i : Nat), nth os i = os[i]?
  | [], _ => by simp [nth]
  | _ :: _, 0 => by simp [nth]
  | _ :: r, n + 1 => by simp [nth, nth_eq r n]
theorem nth_at {os : List Oper} {i : Nat} {o : Oper} (h : nth os i = some o) : os.toArray[i]? = some o := by rw [nth_eq] at h; simpa using h
theorem region_hl (S : World → Prop) (t n : Nat) {id : Nat} {a : Act} {w : World} (hm : P.follows .mixedOrders = true) (hn : ops.size = n) (h : hl P .any ops (NoPanic Q) S t n (List.replicate n false).toArray a w.drew) : (Code.region id ops true).wp P Q a w :=
  wp_region_noPanic (wp_region_any hm (hl.any _ _ _ _ (by rw [hn]; simpa using h)))
theorem region_hl_round (S : World → Prop) (t n : Nat) {id l nF : Nat} {a : Act} {w : World} (hm : P.follows .mixedOrders = true) (hn : ops.size = n) (hd : noDefer ops = true) (h : hl P .any ops (NoPanic Q) S t n (List.replicate n false).toArray a w.drew) : (Code.region id ops true).wpIn (Fence.wide.inRound l) nF P Q a w :=
  wpIn_mono (wpIn_region_any hm (hl.anyIn hd _ _ _ _ (by rw [hn]; simpa using h))) NoPanic.imp
section
variable {os : List Oper}
theorem hl_take_np (i : Nat) {oi : Oper} {v : Value} {fuel : Nat} {listed : Array Bool} {a : Act} {w : World} (hb : takeB md os.toArray t i listed = true) (hs : Region.noSelect os.toArray = true) (hi : nth os i = some oi)
    (hw : Region.wanted oi (yielded os.toArray a.tmps) = true) (hS : S w) (hy : ∀ w, S w → (execOp a.eval oi).run P w = .ok (.value v) w)
    (h : hl P md os.toArray (NoPanic Q) S t fuel (listed.setIfInBounds i true) (a.put oi.dst v) w) : hl P md os.toArray (NoPanic Q) S t (fuel + 1) listed a w :=
  hl_take i hs hb (nth_at hi) (fun _ _ _ h => h) hw hy hS h
theorem hl_skip_np (i : Nat) {oi : Oper} {fuel : Nat} {listed : Array Bool} {a : Act} {w : World} (hb : takeB md os.toArray t i listed = true) (hs : Region.noSelect os.toArray = true) (hi : nth os i = some oi)
    (hw : Region.wanted oi (yielded os.toArray a.tmps) = false) (hS : S w)
    (h : hl P md os.toArray (NoPanic Q) S t fuel (listed.setIfInBounds i true) (a.put oi.dst undef) w) : hl P md os.toArray (NoPanic Q) S t (fuel + 1) listed a w :=
  hl_skip i hs hb (nth_at hi) (fun _ _ _ h => h) hw hS h
/-- the one that may come up, carried out -/
theorem hl_step (i : Nat) {oi : Oper} {fuel : Nat} {listed : Array Bool} {a : Act} {w : World} (hr : Region.ready md os.toArray listed = [i]) (hi : nth os i = some oi)
    (h : wpList P os.toArray (hlK (fun a' w' => (i ≠ t → S w') ∧ hl P md os.toArray Q S t fuel (listed.setIfInBounds i true) a' w') Q) [oi] a w) : hl P md os.toArray Q S t (fuel + 1) listed a w := hl_step0 i hr (nth_at hi) h
/-- .. what follows stands behind a letter -/
theorem hl_stepW (i : Nat) {oi : Oper} {fuel : Nat} {listed : Array Bool} {a : Act} {w : World} (hr : Region.ready md os.toArray listed = [i]) (hi : nth os i = some oi) (hw : Region.wanted oi (yielded os.toArray a.tmps) = true)
    (h : ∀ K : Act → World → Prop, (∀ a' w', (i ≠ t → S w') → hl P md os.toArray Q S t fuel (listed.setIfInBounds i true) a' w' → K a' w') → oi.wp P a w K Q) : hl P md os.toArray Q S t (fuel + 1) listed a w := by
  refine ⟨(fun h0 => by rw [hr] at h0; cases h0), fun j hj => ?_⟩
  rw [hr] at hj
  simp only [List.mem_singleton] at hj
  subst hj
  unfold opR
  simp only [nth_at hi]
  rw [if_pos hw]
  exact h _ (fun _ _ h1 h2 => ⟨h1, h2⟩)
end
end
end Go.Proofs.YtamhlflacnldfaaDoor
