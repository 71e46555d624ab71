/- the document's heap: items in order -/
import Derived.Test.YthdeehpnlcpbnaaHeapI
namespace Go.Proofs.Ythdeehpnlcpbnaa
set_option linter.unusedVariables false
set_option linter.unusedSimpArgs false
open Go.RowKit Go.Shelf
attribute [local go_sem] Oper.semAt_some

theorem icmp_lt (a b : Item) : icmp a b < 0 ↔ a.1 < b.1 ∨ (a.1 = b.1 ∧ a.2 < b.2) := by
  unfold icmp Lib.compareInt
  by_cases h1 : a.1 < b.1
  · simp [orL, h1]
  · by_cases h2 : b.1 < a.1
    · have h3 : ¬ a.1 = b.1 := by omega
      simp [orL, h1, h2, h3]
    · have h3 : a.1 = b.1 := by omega
      by_cases h4 : a.2 < b.2
      · simp [orL, h3, h4]
      · by_cases h5 : b.2 < a.2 <;> simp [orL, h3, h4, h5]
theorem ahead_any (a b : Item) (w : World) : Calls Try.prog 27 #[iv a, iv b] w fun e w' => e = .returned (.bool (decide (icmp a b < 0))) ∧ G w w' := by
  obtain ⟨a0, a1⟩ := a
  obtain ⟨b0, b1⟩ := b
  have H := Lib.hid (icmp_lt (a0, a1) (b0, b1))
  unfold iv
  by_cases h1 : a0 < b0
  · have HV := Lib.hid (show decide (icmp (a0, a1) (b0, b1) < 0) = true by rw [decide_eq_true_eq, H.out]; exact .inl h1)
    go_enter Try.func27, Try.ntmps27
    go_wp2_with fail
    go_ret
    exact ⟨by rw [HV.out]; rfl, ((G.refl w).alloc _).alloc _⟩
  · have h1d : decide (a0 < b0) = false := by simpa using h1
    by_cases h2 : a0 = b0
    · subst h2
      have h2d : (a0 == a0) = true := by simp
      by_cases h3 : a1 < b1
      · have HV := Lib.hid (show decide (icmp (a0, a1) (a0, b1) < 0) = true by rw [decide_eq_true_eq, H.out]; exact .inr ⟨rfl, h3⟩)
        go_enter Try.func27, Try.ntmps27
        go_wp2_with fail
        go_ret
        exact ⟨by rw [HV.out]; rfl, ((G.refl w).alloc _).alloc _⟩
      · have h3d : decide (a1 < b1) = false := by simpa using h3
        have HV := Lib.hid (show decide (icmp (a0, a1) (a0, b1) < 0) = false by rw [decide_eq_false_iff_not, H.out]; simp only; omega)
        go_enter Try.func27, Try.ntmps27
        go_wp2_with fail
        go_ret
        exact ⟨by rw [HV.out]; rfl, ((G.refl w).alloc _).alloc _⟩
    · have h2d : (a0 == b0) = false := by simpa using h2
      have HV := Lib.hid (show decide (icmp (a0, a1) (b0, b1) < 0) = false by rw [decide_eq_false_iff_not, H.out]; simp only; omega)
      go_enter Try.func27, Try.ntmps27
      go_wp2_with fail
      go_ret
      exact ⟨by rw [HV.out]; rfl, ((G.refl w).alloc _).alloc _⟩
/-- where an item goes -/
def bef (x e : Item) : Bool := !decide (icmp x e < 0)
def insL (x : Item) (L : List Item) : List Item := L.takeWhile (bef x) ++ x :: L.dropWhile (bef x)
theorem ins_at {x : Item} : ∀ {L : List Item} {k : Nat}, (L.take k).all (bef x) = true → (L.length ≤ k ∨ ∃ e, L[k]? = some e ∧ bef x e = false) → insL x L = L.take k ++ x :: L.drop k
  | [], k, _, _ => by simp [insL]
  | e :: L, 0, _, h => by
    rcases h with h | ⟨e', he, hb⟩
    · simp at h
    · cases he; simp [insL, hb]
  | e :: L, k + 1, h1, h2 => by
    simp only [List.take_succ_cons, List.all_cons, Bool.and_eq_true] at h1
    have := ins_at (x := x) (L := L) (k := k) h1.2 (h2.imp (fun h => by simpa using h) (fun h => by simpa using h))
    unfold insL at this ⊢
    rw [List.takeWhile_cons, List.dropWhile_cons, if_pos h1.1, if_pos h1.1]
    simp only [List.cons_append, this, List.take_succ_cons, List.drop_succ_cons]
theorem insL_len (x : Item) (L : List Item) : (insL x L).length = L.length + 1 := by
  unfold insL
  have h := congrArg List.length (List.takeWhile_append_dropWhile (p := bef x) (l := L))
  rw [List.length_append] at h
  rw [List.length_append, List.length_cons]
  omega
def inss (L xs : List Item) : List Item := xs.foldl (fun L x => insL x L) L
theorem inss_len : ∀ (xs L : List Item), (inss L xs).length = L.length + xs.length
  | [], L => rfl
  | x :: xs, L => by
    show (inss (insL x L) xs).length = _
    rw [inss_len xs, insL_len]; simp; omega
theorem inss_snoc {xs L : List Item} {k : Nat} {x : Item} (h : xs[k]? = some x) : inss L (xs.take (k + 1)) = insL x (inss L (xs.take k)) := by
  rw [List.take_add_one, h]; simp [inss]
/-- the document's heap at R -/
structure RefAt (T : Nat → Prop) (W : World) (R : Nat) (v : Value) (L : List Item) : Prop where
  box : Boxed W R 53 v
  rdr : Rdr W 2 v L.length (icells L)
  cap : ∀ p n c, v = .slice p n c → n ≤ c
  inR : T R
  inV : 0 < L.length → ∀ g, v.ownBlock = some g → T g ∧ g ≠ R
  lt : ∀ k, T k → k < W.heap.size
theorem RefAt.fr {T U : Nat → Prop} {W W' : World} {R : Nat} {v : Value} {L : List Item} (h : RefAt T W R v L) (hf : Fr U W W') (hd : ∀ k, T k → ¬ U k) : RefAt T W' R v L :=
  ⟨hf.boxed h.box (hd R h.inR), rdr_fr0 h.rdr hf (fun h0 g hg => hd g (h.inV h0 g hg).1), h.cap, h.inR, h.inV, fun k hk => Nat.lt_of_lt_of_le (h.lt k hk) hf.size⟩
theorem RefAt.g {T : Nat → Prop} {W W' : World} {R : Nat} {v : Value} {L : List Item} (h : RefAt T W R v L) (hg : G W W') : RefAt T W' R v L := h.fr (hg.fr (fun _ => False)) (fun _ _ x => x)
theorem infoRI : (Try.prog.info? 43).map (fun i => (i.zero, i.size, i.bytes)) = some (some (.agg #[.int .i64 0, .int .i64 0]), 2, 16) := by kernel_rfl
end Go.Proofs.Ythdeehpnlcpbnaa
