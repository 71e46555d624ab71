/- laid together: HeapA HeapP -/
import Derived.Test.YthhmmjpgefinmaaGA
import Derived.Test.YthhmmjpgefinmaaGB
import Derived.Lib.Small
import Derived.Sort.QuietIn
import Derived.Deep.CutBlock
import Derived.BigQuiet
import Derived.BigRegion
import Derived.Deep.LoopGhost
import Derived.Deep.QuietTactic
/- items: how they stand -/
namespace Go.Proofs.Ythhmmjpgefinmaa
set_option linter.unusedVariables false
set_option linter.unusedSimpArgs false
open Go.RowKit Go.Shelf
attribute [local go_sem] Oper.semAt_some
theorem hnanI_any (x : Int) (w : World) : Calls Try.prog 88 #[.int .i64 x] w fun e w' => e = .returned (.bool false) ∧ w = w' := by
  go_enter Try.func88, Try.ntmps88
  go_wp2
  go_ret
  exact ⟨by simp, rfl⟩
theorem hcmpI_any (x y : Int) (w : World) : Calls Try.prog 75 #[.int .i64 x, .int .i64 y] w fun e w' => e = .returned (.int .i64 (Lib.compareInt x y)) ∧ w = w' := by
  by_cases h1 : x < y
  · have H := Lib.hid (show Lib.compareInt x y = -1 by simp [Lib.compareInt, h1])
    go_enter Try.func75, Try.ntmps75
    go_wp2_with (go_at_call 88; refine (hnanI_any _ _).mono ?_; rintro e w' ⟨rfl, rfl⟩)
    go_ret
    exact ⟨by rw [H.out]; rfl, rfl⟩
  · by_cases h2 : y < x
    · have H := Lib.hid (show Lib.compareInt x y = 1 by simp [Lib.compareInt, h1, h2])
      go_enter Try.func75, Try.ntmps75
      go_wp2_with (go_at_call 88; refine (hnanI_any _ _).mono ?_; rintro e w' ⟨rfl, rfl⟩)
      go_ret
      exact ⟨by rw [H.out]; rfl, rfl⟩
    · have H := Lib.hid (show Lib.compareInt x y = 0 by simp [Lib.compareInt, h1, h2])
      go_enter Try.func75, Try.ntmps75
      go_wp2_with (go_at_call 88; refine (hnanI_any _ _).mono ?_; rintro e w' ⟨rfl, rfl⟩)
      go_ret
      exact ⟨by rw [H.out]; rfl, rfl⟩
def hints (l : List Int) : List Value := l.map (Value.int .i64)
theorem hints_get {ss : List Int} {k : Nat} {s : Int} (h : ss[k]? = some s) : (hints ss)[k]? = some (.int .i64 s) := by simp [hints, h]
/-- the first that is not 0 -/
def horL : List Int → Int
  | [] => 0
  | x :: xs => if x = 0 then horL xs else x
theorem hor_any (xs : List Int) (v : Value) (w : World) (hv : Rdr w 1 v xs.length (hints xs)) (hn : xs.length ≤ 1000000) : Calls Try.prog 74 #[v] w fun e w' => e = .returned (.int .i64 (horL xs)) ∧ w = w' := by
  obtain ⟨p, c, rfl, -, hpc⟩ := hv.at
  obtain ⟨n, hnn⟩ : ∃ n, n = xs.length := ⟨_, rfl⟩
  rw [← hnn] at hn hpc
  simp only [← hnn]
  have HN := Lib.hid hnn
  have HC := Lib.hid hpc
  clear hnn hpc hv
  go_enter Try.func74, Try.ntmps74
  go_wp2_with fail
  go_loop [8] (fun i => ∃ k : Nat, k ≤ n ∧ i = .int .i64 k ∧ Hid (horL xs = horL (xs.drop k))) (fun i => n - (intOf i).toNat)
  case atStart => exact ⟨0, by omega, rfl, (rfl : horL xs = horL (xs.drop 0))⟩
  case round =>
    obtain ⟨k, hk, rfl, HO⟩ := hrel
    by_cases hlt : k < n
    · obtain ⟨b, o, rfl, hcell⟩ := HC.out (by omega)
      obtain ⟨x, hx⟩ : ∃ x, xs[k]? = some x := ⟨xs[k]'(by have := HN.out; omega), List.getElem?_eq_getElem _⟩
      have c1 := hcell k _ (hints_get hx)
      have HD := Lib.hid (show xs.drop k = x :: xs.drop (k + 1) by
        obtain ⟨h1, h2⟩ := List.getElem?_eq_some_iff.1 hx
        rw [← h2]; exact List.drop_eq_getElem_cons h1)
      clear hcell hx
      by_cases h0 : x = 0
      · have H1 := Lib.hid (show horL xs = horL (xs.drop (k + 1)) by rw [HO.out, HD.out, horL, if_pos h0])
        subst h0
        go_wp2_with fail
        go_round
        case rel => exact ⟨k + 1, by omega, by go_num, H1⟩
        case measure => simp [intOf]; omega
      · have H1 := Lib.hid (show horL xs = x by rw [HO.out, HD.out, horL, if_neg h0])
        go_wp2_with fail
        go_ret
        exact ⟨by rw [H1.out]; rfl, rfl⟩
    · have H1 := Lib.hid (show horL xs = 0 by rw [HO.out, List.drop_of_length_le (by have := HN.out; omega)]; rfl)
      go_wp2_with fail
      go_ret
      exact ⟨by rw [H1.out]; rfl, rfl⟩
/-- an item: its key, its value -/
abbrev Item := Int × Int
def iv (x : Item) : Value := .agg #[.int .i64 x.1, .int .i64 x.2]
/-- how two items stand -/
def icmp (a b : Item) : Int := horL [Lib.compareInt a.1 b.1, Lib.compareInt a.2 b.2]
theorem order_any (a b : Item) (w : World) : Calls Try.prog 77 #[iv a, iv b] w fun e w' => e = .returned (.int .i64 (icmp a b)) ∧ G w w' := by
  obtain ⟨ak, av⟩ := a
  obtain ⟨bk, bv⟩ := b
  have H := Lib.hid (show icmp (ak, av) (bk, bv) = horL [Lib.compareInt ak bk, Lib.compareInt av bv] from rfl)
  unfold iv
  go_enter Try.func77, Try.ntmps77
  go_upto_region 1 with fail
  have hg0 : G w ((w.alloc (.cells #[.int .i64 ak, .int .i64 av] 94)).alloc (.cells #[.int .i64 bk, .int .i64 bv] 94)) := ((G.refl w).alloc _).alloc _
  have hA := alloc_new w (.cells #[.int .i64 ak, .int .i64 av] 94)
  have hB := alloc_new (w.alloc (.cells #[.int .i64 ak, .int .i64 av] 94)) (.cells #[.int .i64 bk, .int .i64 bv] 94)
  have hA' := (((G.refl (w.alloc (.cells #[.int .i64 ak, .int .i64 av] 94))).alloc (.cells #[.int .i64 bk, .int .i64 bv] 94)).block (k := w.heap.size) (by simp)).trans hA
  simp only [World.size_alloc] at hB ⊢
  generalize ((w.alloc (.cells #[.int .i64 ak, .int .i64 av] 94)).alloc (.cells #[.int .i64 bk, .int .i64 bv] 94)) = W at hg0 hA' hB ⊢
  have ca0 : W.cell? ⟨w.heap.size, 0, none⟩ = some (.int .i64 ak) := by simp [World.cell?, hA']
  have ca1 : W.cell? ⟨w.heap.size, 1, none⟩ = some (.int .i64 av) := by simp [World.cell?, hA']
  have cb0 : W.cell? ⟨w.heap.size + 1, 0, none⟩ = some (.int .i64 bk) := by simp [World.cell?, hB]
  have cb1 : W.cell? ⟨w.heap.size + 1, 1, none⟩ = some (.int .i64 bv) := by simp [World.cell?, hB]
  clear hA hA' hB
  refine region_hl (fun w' => G W w') 99 13 (by kernel_rfl) rfl ?_
  simp only [List.replicate_succ, List.replicate_zero]
  have hs0 : (fun w' => G W w') W.drew := (G.refl W).drew
  refine hl_take_np 0 (by kernel_rfl) (by kernel_rfl) rfl (by kernel_rfl) hs0 (v := ?_) ?_ ?_
  rotate_left
  · (rintro x hx; have k1 := hx.cell ca0; have k2 := hx.cell ca1; have k3 := hx.cell cb0; have k4 := hx.cell cb1; clear hx; go_simp; try rfl)
  simp only [Act.put, List.setIfInBounds_toArray, List.set_cons_zero, List.set_cons_succ]
  refine hl_take_np 1 (by kernel_rfl) (by kernel_rfl) rfl (by kernel_rfl) hs0 (v := ?_) ?_ ?_
  rotate_left
  · (rintro x hx; have k1 := hx.cell ca0; have k2 := hx.cell ca1; have k3 := hx.cell cb0; have k4 := hx.cell cb1; clear hx; go_simp; try rfl)
  simp only [Act.put, List.setIfInBounds_toArray, List.set_cons_zero, List.set_cons_succ]
  refine hl_take_np 2 (by kernel_rfl) (by kernel_rfl) rfl (by kernel_rfl) hs0 (v := ?_) ?_ ?_
  rotate_left
  · (rintro x hx; have k1 := hx.cell ca0; have k2 := hx.cell ca1; have k3 := hx.cell cb0; have k4 := hx.cell cb1; clear hx; go_simp; try rfl)
  simp only [Act.put, List.setIfInBounds_toArray, List.set_cons_zero, List.set_cons_succ]
  refine hl_take_np 3 (by kernel_rfl) (by kernel_rfl) rfl (by kernel_rfl) hs0 (v := ?_) ?_ ?_
  rotate_left
  · (rintro x hx; have k1 := hx.cell ca0; have k2 := hx.cell ca1; have k3 := hx.cell cb0; have k4 := hx.cell cb1; clear hx; go_simp; try rfl)
  simp only [Act.put, List.setIfInBounds_toArray, List.set_cons_zero, List.set_cons_succ]
  refine hl_take_np 5 (by kernel_rfl) (by kernel_rfl) rfl (by kernel_rfl) hs0 (v := ?_) ?_ ?_
  rotate_left
  · (rintro x hx; have k1 := hx.cell ca0; have k2 := hx.cell ca1; have k3 := hx.cell cb0; have k4 := hx.cell cb1; clear hx; go_simp; try rfl)
  simp only [Act.put, List.setIfInBounds_toArray, List.set_cons_zero, List.set_cons_succ]
  refine hl_take_np 6 (by kernel_rfl) (by kernel_rfl) rfl (by kernel_rfl) hs0 (v := ?_) ?_ ?_
  rotate_left
  · (rintro x hx; have k1 := hx.cell ca0; have k2 := hx.cell ca1; have k3 := hx.cell cb0; have k4 := hx.cell cb1; clear hx; go_simp; try rfl)
  simp only [Act.put, List.setIfInBounds_toArray, List.set_cons_zero, List.set_cons_succ]
  refine hl_take_np 7 (by kernel_rfl) (by kernel_rfl) rfl (by kernel_rfl) hs0 (v := ?_) ?_ ?_
  rotate_left
  · (rintro x hx; have k1 := hx.cell ca0; have k2 := hx.cell ca1; have k3 := hx.cell cb0; have k4 := hx.cell cb1; clear hx; go_simp; try rfl)
  simp only [Act.put, List.setIfInBounds_toArray, List.set_cons_zero, List.set_cons_succ]
  refine hl_take_np 8 (by kernel_rfl) (by kernel_rfl) rfl (by kernel_rfl) hs0 (v := ?_) ?_ ?_
  rotate_left
  · (rintro x hx; have k1 := hx.cell ca0; have k2 := hx.cell ca1; have k3 := hx.cell cb0; have k4 := hx.cell cb1; clear hx; go_simp; try rfl)
  simp only [Act.put, List.setIfInBounds_toArray, List.set_cons_zero, List.set_cons_succ]
  refine hl_stepW 4 (by kernel_rfl) rfl (by kernel_rfl) ?_
  intro K hK
  go_simp
  refine (hcmpI_any ak bk _).mono ?_
  rintro e w' ⟨rfl, rfl⟩
  refine hK _ _ (fun _ => hs0) ?_
  clear hK
  simp only [Act.put, List.setIfInBounds_toArray, List.set_cons_zero, List.set_cons_succ]
  refine hl_stepW 9 (by kernel_rfl) rfl (by kernel_rfl) ?_
  intro K hK
  go_simp
  refine (hcmpI_any av bv _).mono ?_
  rintro e w' ⟨rfl, rfl⟩
  refine hK _ _ (fun _ => hs0) ?_
  clear hK
  simp only [Act.put, List.setIfInBounds_toArray, List.set_cons_zero, List.set_cons_succ]
  refine hl_step 10 (by kernel_rfl) rfl ?_
  go_wp2_with fail
  show _ ∧ _
  have hs1 : G W (W.alloc (.cells #[.int .i64 (Lib.compareInt ak bk), .int .i64 (Lib.compareInt av bv)] 3)).drew := ((G.refl W).alloc _).drew
  refine ⟨(by first | exact hs1 | exact fun _ => hs1), ?_⟩
  refine hl_stepW 11 (by kernel_rfl) rfl (by kernel_rfl) ?_
  intro K hK
  go_simp
  refine (hor_any [Lib.compareInt ak bk, Lib.compareInt av bv] _ _ ((rdr_alloc W (hints [Lib.compareInt ak bk, Lib.compareInt av bv]) 3 (0, 0) 1 2 2 rfl).g ((G.refl _).drew)) (by simp)).mono ?_
  rintro e w' ⟨rfl, rfl⟩
  refine hK _ _ (fun _ => hs1) ?_
  clear hK
  simp only [Act.put, List.setIfInBounds_toArray, List.set_cons_zero, List.set_cons_succ]
  refine hl_take_np 12 (by kernel_rfl) (by kernel_rfl) rfl (by kernel_rfl) hs1 (v := ?_) ?_ ?_
  rotate_left
  · (rintro x hx; have k1 := hx.cell ca0; have k2 := hx.cell ca1; have k3 := hx.cell cb0; have k4 := hx.cell cb1; clear hx; go_simp; try rfl)
  simp only [Act.put, List.setIfInBounds_toArray, List.set_cons_zero, List.set_cons_succ]
  refine hl_done (by kernel_rfl) ?_ _
  refine NoPanic.normal ?_
  go_wp2_with fail
  go_ret
  exact ⟨by rw [H.out]; rfl, hg0.trans hs1⟩
end Go.Proofs.Ythhmmjpgefinmaa

/- heaps, plain -/
namespace Go.Proofs.Ythhmmjpgefinmaa
set_option linter.unusedVariables false
set_option linter.unusedSimpArgs false
open Go.Shelf

structure hGood {α : Type} (f : α → α → Int) : Prop where
  rng : ∀ x y, f x y = -1 ∨ f x y = 0 ∨ f x y = 1
  eq : ∀ x y, f x y = 0 ↔ x = y
  anti : ∀ x y, f y x = - f x y
  tr : ∀ x y z, f x y ≤ 0 → f y z ≤ 0 → f x z = min (f x y) (f y z)
theorem hgood_int : hGood Lib.compareInt := by
  refine ⟨?_, ?_, ?_, ?_⟩ <;> intros <;> unfold Lib.compareInt at * <;> (repeat' split) <;> (repeat' split at *) <;> omega
theorem hGood.self {α : Type} {f : α → α → Int} (h : hGood f) (x : α) : f x x = 0 := (h.eq x x).2 rfl
/-- by the first, then by the second -/
def hpairc {α β : Type} (f : α → α → Int) (g : β → β → Int) (x y : α × β) : Int := if f x.1 y.1 = 0 then g x.2 y.2 else f x.1 y.1
theorem hgood_pair {α β : Type} {f : α → α → Int} {g : β → β → Int} (hf : hGood f) (hg : hGood g) : hGood (hpairc f g) := by
  refine ⟨?_, ?_, ?_, ?_⟩
  · rintro ⟨a, b⟩ ⟨c, d⟩
    have := hf.rng a c
    have := hg.rng b d
    unfold hpairc
    simp only
    split <;> omega
  · rintro ⟨a, b⟩ ⟨c, d⟩
    unfold hpairc
    simp only [Prod.mk.injEq]
    rw [← hf.eq a c, ← hg.eq b d]
    split <;> omega
  · rintro ⟨a, b⟩ ⟨c, d⟩
    have h1 := hf.anti a c
    have h2 := hg.anti b d
    unfold hpairc
    simp only
    rw [h1, h2]
    split <;> split <;> omega
  · rintro ⟨a, b⟩ ⟨c, d⟩ ⟨e, k⟩ h1 h2
    unfold hpairc at *
    simp only at *
    have r1 := hf.rng a c
    have r2 := hf.rng c e
    have r3 := hg.rng b d
    have r4 := hg.rng d k
    by_cases e1 : f a c = 0
    · have ac := (hf.eq a c).1 e1
      subst ac
      rw [if_pos e1] at h1 ⊢
      by_cases e2 : f a e = 0
      · simp only [if_pos e2] at h2 ⊢
        exact hg.tr b d k h1 h2
      · simp only [if_neg e2] at h2 ⊢
        omega
    · rw [if_neg e1] at h1 ⊢
      by_cases e2 : f c e = 0
      · have ce := (hf.eq c e).1 e2
        subst ce
        rw [if_neg e1, if_pos e2] at *
        omega
      · rw [if_neg e2] at h2 ⊢
        have t := hf.tr a c e h1 h2
        rw [if_neg (by omega)]
        omega

theorem icmp_pair (a b : Item) : icmp a b = hpairc Lib.compareInt Lib.compareInt a b := by
  unfold icmp hpairc
  simp only [horL]
  by_cases h : Lib.compareInt a.1 b.1 = 0
  · rw [if_pos h, if_pos h]
    by_cases h2 : Lib.compareInt a.2 b.2 = 0
    · rw [if_pos h2, h2]
    · rw [if_neg h2]
  · rw [if_neg h, if_neg h]
theorem good_item : hGood icmp := by
  rw [show icmp = hpairc Lib.compareInt Lib.compareInt from funext fun a => funext fun b => icmp_pair a b]
  exact hgood_pair hgood_int hgood_int
def le (a b : Item) : Prop := icmp a b ≤ 0
theorem le_refl (a : Item) : le a a := by unfold le; rw [good_item.self]; omega
theorem le_trans {a b c : Item} (h : le a b) (k : le b c) : le a c := by
  unfold le at *
  have := good_item.tr a b c h k
  omega
theorem le_total (a b : Item) : le a b ∨ le b a := by
  unfold le
  have := good_item.anti a b
  omega
theorem le_antisymm {a b : Item} (h : le a b) (k : le b a) : a = b := by
  unfold le at *
  have := good_item.anti a b
  exact (good_item.eq a b).1 (by omega)
abbrev hSrt (l : List Item) : Prop := l.Pairwise le
/-- the two places change -/
def swp (hs : List Item) (i j : Nat) : List Item := (hs.set i (hs.getD j (0, 0))).set j (hs.getD i (0, 0))
theorem swp_len (hs : List Item) (i j : Nat) : (swp hs i j).length = hs.length := by simp [swp]
theorem swp_at {hs : List Item} {i j : Nat} (hi : i < hs.length) (hj : j < hs.length) (k : Nat) : (swp hs i j).getD k (0, 0) = if k = i then hs.getD j (0, 0) else if k = j then hs.getD i (0, 0) else hs.getD k (0, 0) := by
  unfold swp
  simp only [List.getD_eq_getElem?_getD, List.getElem?_set, List.length_set]
  by_cases h1 : k = i
  · subst h1
    by_cases h2 : j = k
    · subst h2; simp [hi]
    · simp [h2, hi]
  · by_cases h2 : k = j
    · subst h2; simp [h1, hj]
    · simp [h1, h2, Ne.symm h1, Ne.symm h2]
theorem perm_cons_set {hs : List Item} : ∀ {i : Nat} (x : Item), i < hs.length → (hs.getD i (0, 0) :: hs.set i x).Perm (x :: hs) := by
  induction hs with
  | nil => intro i x h; simp at h
  | cons a hs ih =>
    intro i x h
    cases i with
    | zero => simp only [List.getD_cons_zero, List.set_cons_zero]; exact List.Perm.swap _ _ _
    | succ i =>
      simp only [List.getD_cons_succ, List.set_cons_succ]
      refine (List.Perm.swap _ _ _).trans (((ih x (by simpa using h)).cons a).trans (List.Perm.swap _ _ _))
theorem swp_perm {hs : List Item} {i j : Nat} (hi : i < hs.length) (hj : j < hs.length) : (swp hs i j).Perm hs := by
  have h1 := perm_cons_set (hs := hs) (hs.getD j (0, 0)) hi
  have h2 := perm_cons_set (hs := hs.set i (hs.getD j (0, 0))) (i := j) (hs.getD i (0, 0)) (by simpa using hj)
  by_cases hij : i = j
  · subst hij
    have e : (hs.set i (hs.getD i (0, 0))).getD i (0, 0) = hs.getD i (0, 0) := by
      simp [List.getD_eq_getElem?_getD, List.getElem?_set, hi]
    rw [e] at h2
    exact (List.Perm.cons_inv h2).trans (List.Perm.cons_inv h1)
  · have e : (hs.set i (hs.getD j (0, 0))).getD j (0, 0) = hs.getD j (0, 0) := by
      simp [List.getD_eq_getElem?_getD, List.getElem?_set, hij]
    rw [e] at h2
    have h3 := h2.trans h1
    exact List.Perm.cons_inv h3
/-- the item at k rises -/
def rise (hs : List Item) (k : Nat) : List Item :=
  if h : k = 0 then hs else if 0 ≤ icmp (hs.getD k (0, 0)) (hs.getD ((k - 1) / 2) (0, 0)) then hs else rise (swp hs k ((k - 1) / 2)) ((k - 1) / 2)
  termination_by k
  decreasing_by omega
/-- the lesser of a place and a kid of it -/
def lsr (hs : List Item) (l kid : Nat) : Nat := if kid < hs.length ∧ icmp (hs.getD kid (0, 0)) (hs.getD l (0, 0)) < 0 then kid else l
def lst (hs : List Item) (k : Nat) : Nat := lsr hs (lsr hs k (2 * k + 1)) (2 * k + 2)
theorem lst_cases (hs : List Item) (k : Nat) : lst hs k = k ∨ (lst hs k = 2 * k + 1 ∧ 2 * k + 1 < hs.length) ∨ (lst hs k = 2 * k + 2 ∧ 2 * k + 2 < hs.length) := by
  have key : ∀ l kid, lsr hs l kid = l ∨ (lsr hs l kid = kid ∧ kid < hs.length) := fun l kid => by
    unfold lsr
    split
    · rename_i h; exact .inr ⟨rfl, h.1⟩
    · exact .inl rfl
  unfold lst
  rcases key (lsr hs k (2 * k + 1)) (2 * k + 2) with h | ⟨h, h'⟩
  · rw [h]
    rcases key k (2 * k + 1) with h2 | ⟨h2, h3⟩
    · exact .inl h2
    · exact .inr (.inl ⟨h2, h3⟩)
  · exact .inr (.inr ⟨h, h'⟩)
/-- the item at k sinks -/
def sink (hs : List Item) (k : Nat) : List Item :=
  if h : lst hs k = k then hs else sink (swp hs k (lst hs k)) (lst hs k)
  termination_by hs.length - k
  decreasing_by
    rw [swp_len]
    have := lst_cases hs k
    omega
abbrev at' (hs : List Item) (i : Nat) : Item := hs.getD i (0, 0)
/-- each stands behind its parent -/
def IsHeap (hs : List Item) : Prop := ∀ i, 0 < i → i < hs.length → le (at' hs ((i - 1) / 2)) (at' hs i)
theorem rise_len (hs : List Item) (k : Nat) : (rise hs k).length = hs.length := by
  fun_induction rise hs k with
  | case1 => rfl
  | case2 => rfl
  | case3 hs k h1 h2 ih => rw [ih, swp_len]
theorem rise_perm (hs : List Item) (k : Nat) (hk : k < hs.length) : (rise hs k).Perm hs := by
  fun_induction rise hs k with
  | case1 => exact List.Perm.refl _
  | case2 => exact List.Perm.refl _
  | case3 hs k h1 h2 ih => exact (ih (by rw [swp_len]; omega)).trans (swp_perm hk (by omega))
theorem sink_len (hs : List Item) (k : Nat) : (sink hs k).length = hs.length := by
  fun_induction sink hs k with
  | case1 => rfl
  | case2 hs k h1 ih => rw [ih, swp_len]
theorem sink_perm (hs : List Item) (k : Nat) (hk : k < hs.length) : (sink hs k).Perm hs := by
  fun_induction sink hs k with
  | case1 => exact List.Perm.refl _
  | case2 hs k h1 ih =>
    have hl := lst_cases hs k
    exact (ih (by rw [swp_len]; omega)).trans (swp_perm hk (by omega))
/-- a heap but for the item at k, which may stand ahead of its parent -/
theorem rise_heap (hs : List Item) (k : Nat) (hk : k < hs.length) (h1 : ∀ i, 0 < i → i < hs.length → i ≠ k → le (at' hs ((i - 1) / 2)) (at' hs i))
    (h2 : ∀ i, 0 < i → i < hs.length → (i - 1) / 2 = k → 0 < k → le (at' hs ((k - 1) / 2)) (at' hs i)) : IsHeap (rise hs k) := by
  fun_induction rise hs k with
  | case1 hs => exact fun i h0 hi => h1 i h0 hi (by omega)
  | case2 hs k h0 hc =>
    intro i hi0 hi
    by_cases e : i = k
    · subst e
      have := good_item.anti (at' hs i) (at' hs ((i - 1) / 2))
      simp only [at', le] at *; omega
    · exact h1 i hi0 hi e
  | case3 hs k h0 hc ih =>
    have hu : (k - 1) / 2 < hs.length := by omega
    have hku : k ≠ (k - 1) / 2 := by omega
    have hlt : le (at' hs k) (at' hs ((k - 1) / 2)) := by simp only [at', le]; omega
    refine ih (by rw [swp_len]; omega) ?_ ?_
    · intro i hi0 hi hik
      rw [swp_len] at hi
      show le ((swp hs k ((k - 1) / 2)).getD _ _) ((swp hs k ((k - 1) / 2)).getD _ _)
      rw [swp_at hk hu, swp_at hk hu]
      by_cases e1 : i = k
      · subst e1
        rw [if_neg (by omega), if_pos rfl, if_pos rfl]
        exact hlt
      · rw [if_neg e1, if_neg hik]
        by_cases e2 : (i - 1) / 2 = k
        · rw [if_pos e2]; exact h2 i hi0 hi e2 (by omega)
        · rw [if_neg e2]
          by_cases e3 : (i - 1) / 2 = (k - 1) / 2
          · rw [if_pos e3]
            exact le_trans hlt (by have := h1 i hi0 hi e1; rwa [e3] at this)
          · rw [if_neg e3]; exact h1 i hi0 hi e1
    · intro i hi0 hi hip hp
      rw [swp_len] at hi
      show le ((swp hs k ((k - 1) / 2)).getD _ _) ((swp hs k ((k - 1) / 2)).getD _ _)
      rw [swp_at hk hu, swp_at hk hu]
      rw [if_neg (by omega), if_neg (by omega)]
      have hpp := h1 ((k - 1) / 2) hp hu (by omega)
      by_cases e1 : i = k
      · rw [if_pos e1]; exact hpp
      · rw [if_neg e1, if_neg (by omega)]
        exact le_trans hpp (by have := h1 i hi0 hi e1; rwa [hip] at this)
theorem lsr_le (hs : List Item) (l kid : Nat) : le (at' hs (lsr hs l kid)) (at' hs l) ∧ (kid < hs.length → le (at' hs (lsr hs l kid)) (at' hs kid)) := by
  unfold lsr
  split
  · rename_i h; exact ⟨by have := h.2; simp only [at', le]; omega, fun _ => le_refl _⟩
  · rename_i h
    refine ⟨le_refl _, fun hk => ?_⟩
    have := good_item.anti (at' hs kid) (at' hs l)
    have h' : ¬ icmp (hs.getD kid (0, 0)) (hs.getD l (0, 0)) < 0 := fun e => h ⟨hk, e⟩
    simp only [at', le] at *; omega
theorem lst_le (hs : List Item) (k : Nat) : le (at' hs (lst hs k)) (at' hs k) ∧ (2 * k + 1 < hs.length → le (at' hs (lst hs k)) (at' hs (2 * k + 1))) ∧ (2 * k + 2 < hs.length → le (at' hs (lst hs k)) (at' hs (2 * k + 2))) := by
  have h1 := lsr_le hs k (2 * k + 1)
  have h2 := lsr_le hs (lsr hs k (2 * k + 1)) (2 * k + 2)
  exact ⟨le_trans h2.1 h1.1, fun h => le_trans h2.1 (h1.2 h), h2.2⟩
/-- a heap but for the item at k, which may stand behind its kids -/
theorem sink_heap (hs : List Item) (k : Nat) (hk : k < hs.length) (h1 : ∀ i, 0 < i → i < hs.length → (i - 1) / 2 ≠ k → le (at' hs ((i - 1) / 2)) (at' hs i))
    (h2 : ∀ i, 0 < i → i < hs.length → (i - 1) / 2 = k → 0 < k → le (at' hs ((k - 1) / 2)) (at' hs i)) : IsHeap (sink hs k) := by
  fun_induction sink hs k with
  | case1 hs k h =>
    intro i hi0 hi
    by_cases e : (i - 1) / 2 = k
    · have hl := lst_le hs k
      rw [h] at hl
      rw [e]
      rcases (by omega : i = 2 * k + 1 ∨ i = 2 * k + 2) with rfl | rfl
      · exact hl.2.1 hi
      · exact hl.2.2 hi
    · exact h1 i hi0 hi e
  | case2 hs k h ih =>
    have hc := lst_cases hs k
    have hl := lst_le hs k
    generalize hm : lst hs k = m at *
    have hml : m < hs.length := by omega
    have hmk : (m - 1) / 2 = k ∧ 0 < m := by omega
    refine ih (by rw [swp_len]; omega) ?_ ?_
    · intro i hi0 hi hik
      rw [swp_len] at hi
      show le ((swp hs k m).getD _ _) ((swp hs k m).getD _ _)
      rw [swp_at hk hml, swp_at hk hml]
      rw [if_neg hik]
      by_cases e1 : (i - 1) / 2 = k
      · rw [if_pos e1, if_neg (by omega)]
        by_cases e2 : i = m
        · rw [if_pos e2]; exact hl.1
        · rw [if_neg e2]
          rcases (by omega : i = 2 * k + 1 ∨ i = 2 * k + 2) with rfl | rfl
          · exact hl.2.1 hi
          · exact hl.2.2 hi
      · rw [if_neg e1]
        by_cases e3 : i = k
        · rw [if_pos e3]
          subst e3
          exact h2 m hmk.2 hml hmk.1 hi0
        · rw [if_neg e3, if_neg (by omega)]
          exact h1 i hi0 hi e1
    · intro i hi0 hi hip hp
      rw [swp_len] at hi
      show le ((swp hs k m).getD _ _) ((swp hs k m).getD _ _)
      rw [swp_at hk hml, swp_at hk hml]
      rw [if_pos hmk.1, if_neg (by omega), if_neg (by omega)]
      have := h1 i hi0 hi (by omega)
      rwa [hip] at this
end Go.Proofs.Ythhmmjpgefinmaa
