/- laid together: HeapH HeapI HeapJ HeapK HeapL HeapM HeapQ HeapR HeapV -/
import Derived.Test.YthhmmjpgefinmaaHeapG
/- all items of a heap -/
namespace Go.Proofs.Ythhmmjpgefinmaa
set_option linter.unusedVariables false
set_option linter.unusedSimpArgs false
open Go.RowKit Go.Shelf
attribute [local go_sem] Oper.semAt_some

theorem icells_snoc (l : List Item) (x : Item) : icells (l ++ [x]) = icells l ++ [.int .i64 x.1, .int .i64 x.2] := by rw [icells_app]; rfl
set_option maxHeartbeats 1000000 in
theorem items_any (S : Nat → Prop) (B : Nat) (v : Value) (hs : List Item) (w : World) (h : HeapAt S w B v hs) (hn : hs.length ≤ 1000000) :
    Calls Try.prog 54 #[.pointer (some ⟨B, 0, none⟩)] w fun e w' => ∃ u, e = .returned u ∧ w'.ownsRow w.heap.size 94 2 u (tk 9223372036854775807 hs.length hs).length (icells (tk 9223372036854775807 hs.length hs)) ∧ G w w' := by
  have HC := Lib.hid (copy_any S B v hs (w.alloc (.cells #[.slice none 0 0] 98)) (h.g ((G.refl w).alloc _)) hn)
  obtain ⟨key, hkey⟩ : ∃ key : Int, key = 9223372036854775807 := ⟨_, rfl⟩
  have HKEY := Lib.hid hkey
  rw [← hkey]
  obtain ⟨i0, hi, hz0, hz1, hz2⟩ := info_parts infoI
  have hw1 : G w (w.alloc (.cells #[.slice none 0 0] 98)) := (G.refl w).alloc _
  have hb0 : Boxed (w.alloc (.cells #[.slice none 0 0] 98)) w.heap.size 98 (.slice none 0 0) := boxed_at w [_] 0 _ _ rfl
  clear h hkey
  refine calls_of_marks Try.func54 rfl ?_
  simp only [Try.ntmps54, List.size_toArray, List.length_cons, List.length_nil, Nat.reduceAdd, Nat.reduceSub, Array.replicate_succ, Array.replicate_zero, List.push_toArray, List.append_toArray, List.nil_append, List.cons_append]
  go_wp2_with fail
  refine HC.out.mono ?_
  rintro e w2 ⟨B2, rfl, ⟨v2, S2, hat2, hs2⟩, hg2⟩
  have hgw := hw1.trans hg2
  have hb2 := hg2.boxed hb0
  have hz1w : (w.alloc (.cells #[.slice none 0 0] 98)).heap.size = w.heap.size + 1 := by simp
  have hS2 : ∀ k, S2 k → w.heap.size + 1 ≤ k := fun k hk => by have := hs2 k hk; omega
  have HAT2 := Lib.hid hat2
  have HS2 := Lib.hid hS2
  have hz2w : w.heap.size + 1 ≤ w2.heap.size := by have := hg2.size; omega
  clear hat2 hs2 hS2 hz1w hb0 hw1 hg2 HC
  go_wp2_with fail
  have hup := upto_any B2 key w2
  rw [HKEY.out] at hup
  refine hup.mono ?_
  rintro e w3 ⟨rfl, hw3⟩
  have hg23 : G w2 w3 := by rw [hw3]; exact ((G.refl w2).alloc _).alloc _
  have h1 : Boxed w3 w2.heap.size 76 (.pointer (some ⟨B2, 0, none⟩)) := by rw [hw3]; exact boxed_at w2 [_, _] 0 _ _ rfl
  have h2 : Boxed w3 (w2.heap.size + 1) 3 (.int .i64 key) := by rw [hw3, HKEY.out]; exact boxed_at w2 [_, _] 1 _ _ rfl
  have hz3 : w2.heap.size + 2 ≤ w3.heap.size := by rw [hw3]; exact Nat.le_of_eq (allocs_size w2 [_, _]).symm
  clear hw3 hup
  have hseq := upto_seq S2 B2 hs key w2.heap.size (w2.heap.size + 1) w3 ⟨v2, HAT2.out.g hg23⟩ h1 h2 hn (fun h => by have := HAT2.out.lt _ h; omega) (fun h => by have := HAT2.out.lt _ h; omega)
  have hgw3 := hgw.trans hg23
  have hb3 := hg23.boxed hb2
  have HLT : Hid (∀ k, S2 k → k < w2.heap.size) := Lib.hid HAT2.out.lt
  have hit : ∀ k, (S2 k ∨ k = w2.heap.size ∨ k = w2.heap.size + 1) → w.heap.size + 1 ≤ k ∧ k < w3.heap.size := fun k hk => by
    rcases hk with h | h | h
    · have h1 := HS2.out k h; have h2 := HLT.out k h; omega
    · omega
    · omega
  have HIT := Lib.hid hit
  clear hit
  have htl : ∀ pre x, pre ++ [x] <+: tk key hs.length hs → pre.length ≤ 1000000 := fun pre x hp => by
    have h1 := hp.length_le
    have h2 : ∀ n (l : List Item), (tk key n l).length ≤ n := fun n => by
      induction n with
      | zero => intro l; simp [tk]
      | succ n ih => intro l; rw [tk]; split
                     · simp
                     · split
                       · have := ih (popL l); simp; omega
                       · simp
    have := h2 hs.length hs
    simp at h1
    omega
  have HTL := Lib.hid htl
  clear h1 h2 hg23 hb2 htl
  go_wp2_with fail
  refine range_wp2 (gf := 83) (lb := #[.pointer (some ⟨w2.heap.size, 0, none⟩), .pointer (some ⟨w2.heap.size + 1, 0, none⟩)]) (fun x W => W.alloc (.cells #[.int .i64 x.1, .int .i64 x.2] 94)) (fun x W => (G.refl W).alloc _) rfl (enters_of Try.func83 (by kernel_rfl) rfl)
    hseq (G.refl _) (fun k hk => (HIT.out k hk).2) (fun k hk => hk.elim) (fun _ => rfl)
    (fun pre Fo W => ∃ vo, FBox w.heap.size 98 vo Fo W ∧ FRow (w.heap.size + 1) 94 2 vo pre.length (icells pre) Fo W ∧ FG w Fo W)
    (fun c pre Fo W => False)
    (fun p => Stable.ex fun vo => (Stable.box _ _ _).and ((Stable.row _ _ _ _ _ _).and (Stable.fg _)))
    (fun c p => Stable.pure _)
    ⟨.slice none 0 0, ⟨fun h => by have := (HIT.out _ h).1; omega, hb3⟩, ⟨fun _ h => (by cases h), World.ownsRow_nil _ _ _ _⟩, fun k hk => by have := (HIT.out k hk).1; omega, hgw3⟩
    ?a1 ?assign ?body ?done ?stop
  case assign =>
    intro l x W K hK
    simp only [encI, iv]
    gi_wp2
    exact hK
  case stop =>
    intro D cc pre It Fo W W3 hD hDl hIF hFD hIt hFo hpart hfr hff hK
    exact hff.elim
  case body =>
    rintro l pre x Fo W0 W hW0 hW3 hfrW hfo hfl hsz2 ⟨vo, ⟨hn0, hx0⟩, ⟨hnr, hrow⟩, hfg, hg⟩ hpre
    obtain ⟨x0, x1⟩ := x
    have hpl := HTL.out _ _ hpre
    simp only at hfrW
    have hne8 : ¬ W0.heap.size = w3.heap.size + 1 := by omega
    have k0 : W.cell? ⟨W0.heap.size, 0, none⟩ = some (.int .i64 x0) := hfrW.cell (p := ⟨W0.heap.size, 0, none⟩) hne8 (cell_alloc_at W0 [.int .i64 x0, .int .i64 x1] 94 (0, 0) 0 _ rfl)
    have k1 : W.cell? ⟨W0.heap.size, 1, none⟩ = some (.int .i64 x1) := hfrW.cell (p := ⟨W0.heap.size, 1, none⟩) hne8 (cell_alloc_at W0 [.int .i64 x0, .int .i64 x1] 94 (0, 0) 1 _ rfl)
    obtain ⟨lp, lc, hvl⟩ := ownsRow_shape hrow
    subst hvl
    have hc0 := hx0.cell
    have hf0 := hx0.frozen
    have hnb : ¬ (Value.slice lp pre.length lc).ownBlock = some w.heap.size := fun h => by have := (hrow.lt _ h).1; omega
    clear hfrW hpre
    gi_wp2_with (gi_at_builtin; refine wpListIn_append2 _ rfl _ _ 98 rfl (w.heap.size + 1) 94 i0 (.agg #[.int .i64 0, .int .i64 0]) 2 16 Try.underlying98 hi hz0 hz1 hz2 rfl (by decide) (.slice lp pre.length lc) pre.length (icells pre) rfl ((G.alloc (G.refl W) _).ownsRow hrow) ⟨W.heap.size, 0, none⟩ 1 1 [.int .i64 x0, .int .i64 x1] rfl rfl (World.news_of_block (cs := #[.int .i64 x0, .int .i64 x1]) (t := 94) (fr := (0, 0)) (alloc_new W _)) (by simp [Value.oneCell']) (by unfold maxLen; omega) (by omega) (by simp; omega) ?_; intro v' w1' hown hgrow hnil hat; obtain ⟨op, oc, rfl⟩ := ownsRow_shape hown; have hap := FRow.appended ⟨hnr, hrow⟩ hown hgrow hat hfl; have hxb := hap.2.boxed hx0 hnb; have cb := hxb.cell; have fb := hxb.frozen; have HAP := Lib.hid hap; have HXB := Lib.hid hxb; clear hown hgrow hnil hat hap hxb)
    have hst : Fr (fun k => k = w.heap.size) w1' (w1'.setCell ⟨w.heap.size, 0, none⟩ (.slice op (pre.length + 1) oc)) := (Fr.refl (fun k => k = w.heap.size) w1').setCell (p := ⟨w.heap.size, 0, none⟩) (.inl rfl) _
    have hF5 := ((HAP.out.2.mono (fun q e hq => hq.elim (fun h => hnr q e h) (fun h => h)) : Fr (fun k => ¬ (Fo k ∨ False)) W w1').setCell (p := ⟨w.heap.size, 0, none⟩) (.inl (fun h => h.elim hn0 (fun h => h))) (.slice op (pre.length + 1) oc))
    have hW5 : G w w1' := ((hg.fr (fun q => w.heap.size ≤ q)).trans HAP.out.2 (fun i hi e => by have := (hrow.lt _ e).1; omega)).g (fun _ h => h)
    have hr5 := FRow.setCell HAP.out.1 (p := ⟨w.heap.size, 0, none⟩) (Nat.lt_succ_self _) (.slice op (pre.length + 1) oc)
    refine ⟨hF5, .slice op (pre.length + 1) oc, FBox.set _ ⟨hn0, HXB.out⟩, ?_, hfg, hW5.setCell (by simp) _⟩
    rw [icells_snoc, List.length_append]
    exact hr5
  case done =>
    rintro D l2 It Fo W W3 hD hDl hIF hFD hIt hFo ⟨rfl, -⟩ hfr ⟨vo, ⟨hn0, hx0⟩, ⟨hnr, hrow⟩, hfg, hg⟩ hK
    obtain ⟨lp, lc, hvl⟩ := ownsRow_shape hrow
    subst hvl
    have hc0 := hx0.cell
    have hf0 := hx0.frozen
    have HROW := Lib.hid hrow
    have HNR := Lib.hid hnr
    have HK := Lib.hid hK
    clear hrow hnr hK hseq hfr HTL
    obtain ⟨xs, hxs⟩ : ∃ xs, xs = tk key hs.length hs := ⟨_, rfl⟩
    rw [← hxs] at HROW HNR hx0 hc0
    have HXS := Lib.hid hxs
    clear hxs
    go_wp2_with fail
    have x1 := hx0.set (.slice lp xs.length lc)
    have hst : Fr (fun k => k = w.heap.size) W (W.setCell ⟨w.heap.size, 0, none⟩ (.slice lp xs.length lc)) := (Fr.refl (fun k => k = w.heap.size) W).setCell (p := ⟨w.heap.size, 0, none⟩) (.inl rfl) _
    have k2 := (hst.block D hDl (by omega)).trans HK.out
    have hg5 : G w (W.setCell ⟨w.heap.size, 0, none⟩ (.slice lp xs.length lc)) := hg.setCell (by simp) _
    have hr5 := hst.ownsRow HROW.out (fun g hg e => by have := (HROW.out.lt g hg).1; omega)
    generalize (W.setCell ⟨w.heap.size, 0, none⟩ (.slice lp xs.length lc)) = W5 at x1 k2 hg5 hr5 ⊢
    have b1 := boxed_putObj (o := .deferred none) x1 (show w.heap.size ≠ D by omega)
    have hr6 := (putObj_fr W5 D (.deferred none)).ownsRow hr5 (fun g hg e => HNR.out g hg (by rw [e]; exact hFD))
    refine leave_mark (D := D) k2 (leave_nil (v := .slice lp xs.length lc) (by simp [results, Try.results54, go_sem, b1.cell]) ⟨_, rfl, by rw [← HXS.out]; exact ownsRow_mono hr6 (by omega), hg5.putObj (by omega) _⟩)
end Go.Proofs.Ythhmmjpgefinmaa

/- those up to a key, so many at most -/
namespace Go.Proofs.Ythhmmjpgefinmaa
set_option linter.unusedVariables false
set_option linter.unusedSimpArgs false
open Go.RowKit Go.Shelf
attribute [local go_sem] Oper.semAt_some

/-- of what was there just the blocks in S may have turned -/
def FS (w0 : World) (S : Nat → Prop) (Fo : Nat → Prop) (W : World) : Prop := (∀ k, Fo k → S k ∨ w0.heap.size ≤ k) ∧ Fr S w0 W
theorem Stable.fs (w0 : World) (S : Nat → Prop) : Stable (FS w0 S) := fun Fo Fo' W W' h a b c =>
  ⟨fun k hk => (b k hk).elim (h.1 k) (fun hk => .inr (Nat.le_trans h.2.size hk)), h.2.trans c (fun i hi hs => (h.1 i hs).elim id (fun h => by omega))⟩
theorem tk_len (key : Int) : ∀ n (l : List Item), (tk key n l).length ≤ n
  | 0, l => by simp [tk]
  | n + 1, l => by
    rw [tk]
    split
    · simp
    · split
      · have := tk_len key n (popL l); simp; omega
      · simp
end Go.Proofs.Ythhmmjpgefinmaa

/- the document's heap: items in order -/
namespace Go.Proofs.Ythhmmjpgefinmaa
set_option linter.unusedVariables false
set_option linter.unusedSimpArgs false
open Go.RowKit Go.Shelf
attribute [local go_sem] Oper.semAt_some

theorem icmp_lt (a b : Item) : icmp a b < 0 ↔ a.1 < b.1 ∨ (a.1 = b.1 ∧ a.2 < b.2) := by
  unfold icmp Lib.compareInt
  by_cases h1 : a.1 < b.1
  · simp [horL, h1]
  · by_cases h2 : b.1 < a.1
    · have h3 : ¬ a.1 = b.1 := by omega
      simp [horL, h1, h2, h3]
    · have h3 : a.1 = b.1 := by omega
      by_cases h4 : a.2 < b.2
      · simp [horL, h3, h4]
      · by_cases h5 : b.2 < a.2 <;> simp [horL, h3, h4, h5]
/-- where an item goes -/
def bef (x e : Item) : Bool := !decide (icmp x e < 0)
def insL (x : Item) (L : List Item) : List Item := L.takeWhile (bef x) ++ x :: L.dropWhile (bef x)
theorem ins_at {x : Item} : ∀ {L : List Item} {k : Nat}, (L.take k).all (bef x) = true → (L.length ≤ k ∨ ∃ e, L[k]? = some e ∧ bef x e = false) → insL x L = L.take k ++ x :: L.drop k
  | [], k, _, _ => by simp [insL]
  | e :: L, 0, _, h => by
    rcases h with h | ⟨e', he, hb⟩
    · simp at h
    · cases he; simp [insL, hb]
  | e :: L, k + 1, h1, h2 => by
    simp only [List.take_succ_cons, List.all_cons, Bool.and_eq_true] at h1
    have := ins_at (x := x) (L := L) (k := k) h1.2 (h2.imp (fun h => by simpa using h) (fun h => by simpa using h))
    unfold insL at this ⊢
    rw [List.takeWhile_cons, List.dropWhile_cons, if_pos h1.1, if_pos h1.1]
    simp only [List.cons_append, this, List.take_succ_cons, List.drop_succ_cons]
theorem insL_len (x : Item) (L : List Item) : (insL x L).length = L.length + 1 := by
  unfold insL
  have h := congrArg List.length (List.takeWhile_append_dropWhile (p := bef x) (l := L))
  rw [List.length_append] at h
  rw [List.length_append, List.length_cons]
  omega
def inss (L xs : List Item) : List Item := xs.foldl (fun L x => insL x L) L
theorem inss_len : ∀ (xs L : List Item), (inss L xs).length = L.length + xs.length
  | [], L => rfl
  | x :: xs, L => by
    show (inss (insL x L) xs).length = _
    rw [inss_len xs, insL_len]; simp; omega
theorem inss_snoc {xs L : List Item} {k : Nat} {x : Item} (h : xs[k]? = some x) : inss L (xs.take (k + 1)) = insL x (inss L (xs.take k)) := by
  rw [List.take_add_one, h]; simp [inss]
end Go.Proofs.Ythhmmjpgefinmaa

/- the document's heap: items are put -/
namespace Go.Proofs.Ythhmmjpgefinmaa
set_option linter.unusedVariables false
set_option linter.unusedSimpArgs false
open Go.RowKit Go.Shelf
attribute [local go_sem] Oper.semAt_some

/-- new blocks of a call -/
theorem rdr_drop {W : World} {p : Option Addr} {m c j : Nat} {ks : List Item} (h : Rdr W 2 (.slice p m c) m (icells ks)) (hc : m ≤ c) (hj : j ≤ m) :
    Rdr W 2 (.slice (if c = j then p else Option.map (fun x => x.add (j * 2)) p) (m - j) (c - j)) (m - j) (icells (ks.drop j)) := by
  have hl := h.1
  rw [icells_len] at hl
  refine ⟨by rw [icells_len, List.length_drop]; omega, _, _, rfl, fun h0 => ?_⟩
  obtain ⟨b, o, rfl, hcell⟩ := h.one (by omega)
  refine ⟨b, o + j * 2, by rw [if_neg (by omega)]; simp [addr_add], fun i u hu => ?_⟩
  have e : icells ks = icells (ks.take j) ++ icells (ks.drop j) := by rw [← icells_app, List.take_append_drop]
  have := hcell (j * 2 + i) u (by
    rw [e, List.getElem?_append_right (by rw [icells_len, List.length_take]; omega), icells_len, List.length_take]
    rw [show j * 2 + i - min j ks.length * 2 = i by omega]
    exact hu)
  rwa [← Nat.add_assoc] at this
theorem rdr_take {W : World} {p : Option Addr} {m c j : Nat} {ks : List Item} (h : Rdr W 2 (.slice p m c) m (icells ks)) (hj : j ≤ m) : Rdr W 2 (.slice p j c) j (icells (ks.take j)) := by
  have hl := h.1
  rw [icells_len] at hl
  refine ⟨by rw [icells_len, List.length_take]; omega, _, _, rfl, fun h0 => ?_⟩
  obtain ⟨b, o, rfl, hcell⟩ := h.one (by omega)
  refine ⟨b, o, rfl, fun i u hu => hcell i u ?_⟩
  rw [← icells_take] at hu
  rw [List.getElem?_take] at hu
  split at hu
  · exact hu
  · cases hu
theorem own_fresh (W : World) (x0 x1 : Value) (t : TypeId) : (W.alloc (.cells #[x0, x1] t)).drew.ownsRow W.heap.size t 2 (.slice (some ⟨W.heap.size, 0, none⟩) 1 1) 1 [x0, x1] :=
  ⟨rfl, .inr ⟨W.heap.size, 1, #[x0, x1], rfl, Nat.le_refl _, alloc_new W _, Nat.le_refl _, by unfold maxLen; omega, rfl, rfl⟩⟩
theorem own_cap {W : World} {base n size c : Nat} {e : TypeId} {p : Option Addr} {xs : List Value} (h : W.ownsRow base e size (.slice p n c) n xs) : n ≤ c := by
  rcases h.2 with ⟨h, h0⟩ | ⟨g', cap, cur, he, hb, hh, hc, -⟩
  · omega
  · cases he; exact hc
def New (T : Nat → Prop) (w w' : World) : Nat → Prop := fun k => T k ∨ (w.heap.size ≤ k ∧ k < w'.heap.size)
theorem take_snoc_all {p : Item → Bool} {l : List Item} {j : Nat} {e : Item} (h : (l.take j).all p = true) (he : l[j]? = some e) (hp : p e = true) : (l.take (j + 1)).all p = true := by
  rw [List.take_add_one, he]; simp at h ⊢; exact ⟨h, hp⟩
end Go.Proofs.Ythhmmjpgefinmaa

/- the document's heap: new, first, taken -/
namespace Go.Proofs.Ythhmmjpgefinmaa
set_option linter.unusedVariables false
set_option linter.unusedSimpArgs false
open Go.RowKit Go.Shelf
attribute [local go_sem] Oper.semAt_some

end Go.Proofs.Ythhmmjpgefinmaa

/- the document's heap: those up to a key -/
namespace Go.Proofs.Ythhmmjpgefinmaa
set_option linter.unusedVariables false
set_option linter.unusedSimpArgs false
open Go.RowKit Go.Shelf
attribute [local go_sem] Oper.semAt_some

def lenV (v : Value) : Nat := match v with | .slice _ n _ => n | _ => 0
def upK (key : Int) (x : Item) : Bool := decide (x.1 ≤ key)
theorem up_at {key : Int} : ∀ {L : List Item} {j many : Nat}, (L.take j).all (upK key) = true → j ≤ L.length → j ≤ many → (many ≤ j ∨ L.length ≤ j ∨ ∃ e, L[j]? = some e ∧ upK key e = false) → (L.takeWhile (upK key)).take many = L.take j
  | L, 0, many, _, _, _, h => by
    rcases h with h | h | ⟨e, he, hb⟩
    · have : many = 0 := by omega
      subst this; simp
    · have : L = [] := by cases L with | nil => rfl | cons a l => simp at h
      subst this; simp
    · cases L with
      | nil => cases he
      | cons a l => cases he; simp [hb]
  | [], j + 1, many, _, h, _, _ => by simp at h
  | a :: L, j + 1, many, h1, h2, h3, h4 => by
    simp only [List.take_succ_cons, List.all_cons, Bool.and_eq_true] at h1
    obtain ⟨m, rfl⟩ : ∃ m, many = m + 1 := ⟨many - 1, by omega⟩
    have := up_at (key := key) (L := L) (j := j) (many := m) h1.2 (by simpa using h2) (by omega) (h4.imp (fun h => by omega) (fun h => h.imp (fun h => by simpa using h) (fun h => by simpa using h)))
    rw [List.takeWhile_cons, if_pos h1.1, List.take_succ_cons, List.take_succ_cons, this]
end Go.Proofs.Ythhmmjpgefinmaa

/- a heap and the items in order: one answers as the other (plain) -/
namespace Go.Proofs.Ythhmmjpgefinmaa
set_option linter.unusedVariables false
set_option linter.unusedSimpArgs false

structure HL (hs L : List Item) : Prop where
  heap : IsHeap hs
  perm : hs.Perm L
  srt : hSrt L
theorem HL.nil : HL [] [] := ⟨fun i _ h => by simp at h, List.Perm.refl _, List.Pairwise.nil⟩
theorem HL.len {hs L : List Item} (h : HL hs L) : hs.length = L.length := h.perm.length_eq
theorem HL.isB {hs L : List Item} (h : HL hs L) : isB hs = isB L := by
  have := h.len
  unfold Go.Proofs.Ythhmmjpgefinmaa.isB
  cases hs <;> cases L <;> simp at this ⊢
theorem root_le {hs : List Item} (h : IsHeap hs) : ∀ i, i < hs.length → le (at' hs 0) (at' hs i) := by
  intro i
  induction i using Nat.strongRecOn with
  | ind i ih =>
    intro hi
    by_cases h0 : i = 0
    · subst h0; exact le_refl _
    · exact le_trans (ih ((i - 1) / 2) (by omega) (by omega)) (h i (by omega) hi)
theorem at_mem {l : List Item} {i : Nat} (h : i < l.length) : at' l i ∈ l := by
  have : at' l i = l[i] := by simp [at', List.getD_eq_getElem?_getD, h]
  rw [this]; exact List.getElem_mem h
theorem mem_at {l : List Item} {x : Item} (h : x ∈ l) : ∃ i, i < l.length ∧ at' l i = x := by
  obtain ⟨i, hi, rfl⟩ := List.getElem_of_mem h
  exact ⟨i, hi, by simp [at', List.getD_eq_getElem?_getD, hi]⟩
theorem HL.head {hs L : List Item} (h : HL hs L) : at' hs 0 = at' L 0 := by
  cases L with
  | nil => have := h.len; cases hs with
           | nil => rfl
           | cons a l => simp at this
  | cons x L =>
    have hl := h.len
    have h0 : 0 < hs.length := by rw [hl]; simp
    have h1 : x ∈ hs := h.perm.mem_iff.2 (by simp)
    obtain ⟨i, hi, hx⟩ := mem_at h1
    have h2 : at' hs 0 ∈ x :: L := h.perm.mem_iff.1 (at_mem h0)
    refine le_antisymm (by have := root_le h.heap i hi; rwa [hx] at this) ?_
    show le x (at' hs 0)
    rcases List.mem_cons.1 h2 with e | e
    · rw [e]; exact le_refl _
    · exact (List.pairwise_cons.1 h.srt).1 _ e
theorem sink_nil : sink [] 0 = [] := by
  have := sink_len [] 0
  exact List.length_eq_zero_iff.1 this
theorem pop_parts {a : Item} {t : List Item} : (a :: popL (a :: t)).Perm (a :: t) ∧ (IsHeap (a :: t) → IsHeap (popL (a :: t))) := by
  unfold popL
  rw [if_neg (by simp)]
  simp only [List.length_cons, Nat.add_sub_cancel, List.set_cons_zero]
  rcases List.eq_nil_or_concat t with rfl | ⟨u, b, rfl⟩
  · simp only [List.length_nil, List.take_zero, sink_nil]
    exact ⟨List.Perm.refl _, fun _ i _ h => by simp at h⟩
  · have hb : at' (a :: u.concat b) (u.concat b).length = b := by
      simp [at', List.getD_eq_getElem?_getD, List.concat_eq_append]
    rw [hb]
    have hk : (b :: u.concat b).take (u.concat b).length = b :: u := by
      simp [List.concat_eq_append]
    rw [hk]
    refine ⟨?_, fun h => ?_⟩
    · refine List.Perm.cons a ((sink_perm (b :: u) 0 (by simp)).trans ?_)
      rw [List.concat_eq_append]
      exact (List.perm_append_singleton b u).symm
    · have he : ∀ i, 0 < i → i < (b :: u).length → at' (b :: u) i = at' (a :: u.concat b) i := fun i h0 hi => by
        obtain ⟨j, rfl⟩ : ∃ j, i = j + 1 := ⟨i - 1, by omega⟩
        have hj : j < u.length := by simpa using hi
        simp [at', List.getD_eq_getElem?_getD, List.concat_eq_append, List.getElem?_append_left hj]
      refine sink_heap _ 0 (by simp) (fun i h0 hi hp => ?_) (fun i _ _ _ h => absurd h (by omega))
      have hi' : i < (a :: u.concat b).length := by simp [List.concat_eq_append] at hi ⊢; omega
      rw [he i h0 hi, he ((i - 1) / 2) (by omega) (by omega)]
      exact h i h0 hi'
theorem HL.pop {hs L : List Item} (h : HL hs L) : HL (popL hs) L.tail := by
  cases hs with
  | nil =>
    have := h.len
    cases L with
    | nil => exact HL.nil
    | cons x L => simp at this
  | cons a t =>
    cases L with
    | nil => have := h.len; simp at this
    | cons x L =>
      have hx : a = x := h.head
      subst hx
      obtain ⟨p1, p2⟩ := pop_parts (a := a) (t := t)
      exact ⟨p2 h.heap, List.Perm.cons_inv (p1.trans h.perm), (List.pairwise_cons.1 h.srt).2⟩
theorem insL_perm (x : Item) (L : List Item) : (insL x L).Perm (x :: L) := by
  unfold insL
  refine List.perm_middle.trans ?_
  rw [List.takeWhile_append_dropWhile]
theorem bef_le {x e : Item} (h : bef x e = true) : le e x := by
  unfold bef at h
  simp at h
  have := good_item.anti x e
  unfold le; omega
theorem insL_srt (x : Item) : ∀ {L : List Item}, hSrt L → hSrt (insL x L)
  | [], _ => by simp [insL]
  | e :: L, h => by
    obtain ⟨h1, h2⟩ := List.pairwise_cons.1 h
    have ih := insL_srt x h2
    unfold insL at ih ⊢
    cases hb : bef x e
    · rw [List.takeWhile_cons, List.dropWhile_cons, hb]
      simp only [if_false, Bool.false_eq_true, List.nil_append]
      have hx : le x e := by unfold bef at hb; simp at hb; unfold le; omega
      exact List.pairwise_cons.2 ⟨fun y hy => (List.mem_cons.1 hy).elim (fun e' => by rw [e']; exact hx) (fun h' => le_trans hx (h1 y h')), h⟩
    · rw [List.takeWhile_cons, List.dropWhile_cons, hb]
      simp only [if_true, List.cons_append]
      refine List.pairwise_cons.2 ⟨fun y hy => ?_, ih⟩
      have := (insL_perm x L).mem_iff.1 (show y ∈ insL x L from hy)
      rcases List.mem_cons.1 this with rfl | h'
      · exact bef_le hb
      · exact h1 y h'
theorem HL.push {hs L : List Item} (h : HL hs L) (x : Item) : HL (push1 hs x) (insL x L) := by
  have hk : hs.length < (hs ++ [x]).length := by simp
  have he : ∀ i, i < hs.length → at' (hs ++ [x]) i = at' hs i := fun i hi => by simp [at', List.getD_eq_getElem?_getD, List.getElem?_append_left hi]
  refine ⟨rise_heap _ _ hk (fun i h0 hi hne => ?_) (fun i h0 hi hp hk0 => ?_), (rise_perm _ _ hk).trans ?_, insL_srt x h.srt⟩
  · simp at hi
    rw [he i (by omega), he ((i - 1) / 2) (by omega)]
    exact h.heap i h0 (by omega)
  · simp at hi; omega
  · exact (List.perm_append_singleton x hs).trans ((h.perm.cons x).trans (insL_perm x L).symm)
theorem HL.pushes : ∀ {xs hs L : List Item}, HL hs L → HL (pushes hs xs) (inss L xs)
  | [], _, _, h => h
  | x :: xs, hs, L, h => HL.pushes (xs := xs) (h.push x)
theorem HL.tk (key : Int) : ∀ {n : Nat} {hs L : List Item}, HL hs L → hs.length ≤ n → tk key n hs = L.takeWhile (upK key)
  | 0, hs, L, h, hn => by
    have h1 := h.len
    have : L = [] := List.length_eq_zero_iff.1 (by omega)
    subst this; rfl
  | n + 1, hs, L, h, hn => by
    have h1 := h.len
    rw [Go.Proofs.Ythhmmjpgefinmaa.tk]
    cases L with
    | nil =>
      have : hs = [] := List.length_eq_zero_iff.1 (by simpa using h1)
      subst this; simp
    | cons x L =>
      have hne : hs ≠ [] := fun e => by subst e; simp at h1
      have hx : at' hs 0 = x := h.head
      rw [if_neg hne, hx, List.takeWhile_cons]
      unfold upK
      by_cases hc : x.1 ≤ key
      · rw [if_pos hc, if_pos (by simpa using hc)]
        have := HL.tk key (n := n) h.pop (by rw [popL_len]; omega)
        rw [this]; rfl
      · rw [if_neg hc, if_neg (by simpa using hc)]
theorem HL.pops : ∀ {j : Nat} {hs L : List Item}, HL hs L → HL (pops j hs) (L.drop j)
  | 0, _, _, h => h
  | j + 1, hs, L, h => by
    have := HL.pops (j := j) h.pop
    cases L with
    | nil => show HL (Go.Proofs.Ythhmmjpgefinmaa.pops j (popL hs)) _; simpa using this
    | cons x L => exact this
end Go.Proofs.Ythhmmjpgefinmaa

/- the law's own functions -/
namespace Go.Proofs.Ythhmmjpgefinmaa
set_option linter.unusedVariables false
set_option linter.unusedSimpArgs false
open Go.RowKit Go.Shelf
attribute [local go_sem] Oper.semAt_some

def PickOut (m : Int) (w : World) (e : Ending) (w' : World) : Prop := (∃ r : Nat, (r : Int) < m ∧ e = .returned (.int .i64 r)) ∧ w = w'
theorem pick_any (n m : Int) (w : World) (hm : 1 ≤ m) (hm2 : m ≤ 1000) : Calls Try.prog 19 #[.int .i64 n, .int .i64 m] w (PickOut m w) := by
  have b1 : n.tmod m < m := Int.tmod_lt_of_pos n (by omega)
  have b2 : -m < n.tmod m := by
    have := Int.tmod_lt_of_pos (-n) (show 0 < m by omega)
    rw [Int.neg_tmod] at this
    omega
  have b3 : 0 ≤ n.tmod m + m := by omega
  have b4 : n.tmod m + m ≤ 2000 := by omega
  have h0 : ¬ m < 1 := by omega
  have hmz : ¬ m = 0 := by omega
  by_cases hn : n.tmod m < 0
  · go_enter Try.func19, Try.ntmps19
    go_wp2_with fail
    go_ret
    obtain ⟨r, hr⟩ := Int.eq_ofNat_of_zero_le b3
    exact ⟨⟨r, by omega, by rw [← hr]; rfl⟩, rfl⟩
  · go_enter Try.func19, Try.ntmps19
    go_wp2_with fail
    go_ret
    obtain ⟨r, hr⟩ := Int.eq_ofNat_of_zero_le (show 0 ≤ n.tmod m by omega)
    exact ⟨⟨r, by omega, by rw [← hr]; rfl⟩, rfl⟩
/-- a deed: what, key, many, items -/
structure Dd where
  what : Int
  key : Int
  many : Int
  v : Value
  xs : List Item
def dcells : List Dd → List Value
  | [] => []
  | d :: ds => .int .i64 d.what :: .int .i64 d.key :: .int .i64 d.many :: d.v :: dcells ds
theorem dcells_get : ∀ {ds : List Dd} {k : Nat} {d : Dd}, ds[k]? = some d → (dcells ds)[k * 4]? = some (.int .i64 d.what) ∧ (dcells ds)[k * 4 + 1]? = some (.int .i64 d.key) ∧ (dcells ds)[k * 4 + 2]? = some (.int .i64 d.many) ∧ (dcells ds)[k * 4 + 3]? = some d.v
  | a :: ds, 0, d, h => by cases h; exact ⟨rfl, rfl, rfl, rfl⟩
  | a :: ds, k + 1, d, h => by
    obtain ⟨x, y, z, u⟩ := dcells_get (ds := ds) (k := k) (d := d) (by simpa using h)
    rw [show (k + 1) * 4 = k * 4 + 4 by omega]
    exact ⟨by simpa [dcells] using x, by simpa [dcells] using y, by simpa [dcells] using z, by simpa [dcells] using u⟩
/-- deeds that came in -/
structure RdrD (W : World) (v : Value) (ds : List Dd) : Prop where
  rdr : Rdr W 4 v ds.length (dcells ds)
  row : ∀ d ∈ ds, Rdr W 2 d.v d.xs.length (icells d.xs)
theorem RdrD.g {W W' : World} {v : Value} {ds : List Dd} (h : RdrD W v ds) (hg : G W W') : RdrD W' v ds := ⟨h.rdr.g hg, fun d hd => (h.row d hd).g hg⟩
theorem RdrD.at {W : World} {p : Option Addr} {n c : Nat} {ds : List Dd} (h : RdrD W (.slice p n c) ds) {k : Nat} (hk : k < ds.length) : ∃ b o d q e, p = some ⟨b, o, none⟩ ∧ ds[k]? = some d ∧ d.v = .slice q d.xs.length e ∧
    W.cell? ⟨b, o + k * 4, none⟩ = some (.int .i64 d.what) ∧ W.cell? ⟨b, o + k * 4 + 1, none⟩ = some (.int .i64 d.key) ∧ W.cell? ⟨b, o + k * 4 + 2, none⟩ = some (.int .i64 d.many) ∧ W.cell? ⟨b, o + k * 4 + 3, none⟩ = some (.slice q d.xs.length e) ∧ Rdr W 2 (.slice q d.xs.length e) d.xs.length (icells d.xs) := by
  obtain ⟨hl, p', c', he, hc⟩ := h.rdr
  cases he
  obtain ⟨b, o, rfl, hcell⟩ := hc (by omega)
  have hd : ds[k]? = some ds[k] := List.getElem?_eq_getElem hk
  obtain ⟨x, y, z, u⟩ := dcells_get hd
  have hr := h.row _ (List.getElem_mem hk)
  obtain ⟨-, q, e, hv, -⟩ := id hr
  rw [hv] at hr u
  refine ⟨b, o, ds[k], q, e, rfl, hd, hv, hcell _ _ x, ?_, ?_, ?_, hr⟩
  · have := hcell _ _ y; rwa [← Nat.add_assoc] at this
  · have := hcell _ _ z; rwa [← Nat.add_assoc] at this
  · have := hcell _ _ u; rwa [← Nat.add_assoc] at this
/-- a size: where it is at most 600, so is all -/
def DSized (ds : List Dd) (r : Int) : Prop := 0 ≤ r ∧ r ≤ 40000000000000 ∧ (r ≤ 600 → (ds.length : Int) ≤ r ∧ ∀ d ∈ ds, d.xs.length ≤ 600)
end Go.Proofs.Ythhmmjpgefinmaa

/- both heaps at once -/
namespace Go.Proofs.Ythhmmjpgefinmaa
set_option linter.unusedVariables false
set_option linter.unusedSimpArgs false

theorem inss_mem : ∀ {ys L : List Item} {x : Item}, x ∈ inss L ys → x ∈ L ∨ x ∈ ys
  | [], L, x, h => .inl h
  | y :: ys, L, x, h => by
    rcases inss_mem (ys := ys) (L := insL y L) h with h | h
    · rcases List.mem_cons.1 ((insL_perm y L).mem_iff.1 h) with h | h
      · exact .inr (by rw [h]; simp)
      · exact .inl h
    · exact .inr (List.mem_cons_of_mem _ h)
structure Ls (hs L : List Item) (k : Nat) : Prop where
  hl : HL hs L
  len : hs.length ≤ 600 + k * 600
  key : ∀ x ∈ L, x.1 ≤ 9223372036854775807
theorem Ls.push {hs L ys : List Item} {k : Nat} (h : Ls hs L k) (hy : ys.length ≤ 600) (hk : ∀ x ∈ ys, x.1 ≤ 9223372036854775807) : Ls (pushes hs ys) (inss L ys) (k + 1) :=
  ⟨h.hl.pushes, by rw [pushes_len]; have := h.len; omega, fun x hx => (inss_mem hx).elim (h.key x) (hk x)⟩
theorem Ls.pop {hs L : List Item} {k : Nat} (h : Ls hs L k) : Ls (popL hs) L.tail (k + 1) :=
  ⟨h.hl.pop, by rw [h.hl.pop.len, List.length_tail, ← h.hl.len]; have := h.len; omega, fun x hx => h.key x (List.mem_of_mem_tail hx)⟩
theorem Ls.pops {hs L : List Item} {k j : Nat} (h : Ls hs L k) : Ls (pops j hs) (L.drop j) (k + 1) :=
  ⟨h.hl.pops, by rw [h.hl.pops.len, List.length_drop, ← h.hl.len]; have := h.len; omega, fun x hx => h.key x (List.mem_of_mem_drop hx)⟩
theorem Ls.stay {hs L : List Item} {k : Nat} (h : Ls hs L k) : Ls hs L (k + 1) := ⟨h.hl, Nat.le_trans h.len (by omega), h.key⟩
theorem tw_all {p : Item → Bool} : ∀ {L : List Item}, (∀ x ∈ L, p x = true) → L.takeWhile p = L
  | [], _ => rfl
  | x :: L, h => by rw [List.takeWhile_cons, if_pos (h x (by simp)), tw_all (fun y hy => h y (List.mem_cons_of_mem _ hy))]
theorem Ls.all {hs L : List Item} {k : Nat} (h : Ls hs L k) : tk 9223372036854775807 hs.length hs = L := by
  rw [h.hl.tk _ (Nat.le_refl _), tw_all]
  intro x hx
  have := h.key x hx
  simp [upK, this]
theorem Ls.lim {hs L : List Item} {k : Nat} (h : Ls hs L k) (hk : k ≤ 601) : hs.length ≤ 500000 ∧ L.length ≤ 500000 := by have := h.len; have := h.hl.len; omega
theorem box4 {W : World} {B : Nat} {a b c d : Value} {t : TypeId} (h : W.heap[B]? = some (.cells #[a, b, c, d] t (0, 0))) : W.cell? ⟨B, 0, none⟩ = some a ∧ W.cell? ⟨B, 1, none⟩ = some b ∧ W.cell? ⟨B, 2, none⟩ = some c ∧ W.cell? ⟨B, 3, none⟩ = some d := by
  simp [World.cell?, h]
end Go.Proofs.Ythhmmjpgefinmaa
