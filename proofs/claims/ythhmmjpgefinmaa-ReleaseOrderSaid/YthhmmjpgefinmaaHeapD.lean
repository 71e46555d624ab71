/- laid together: HeapD -/
import Derived.Test.YthhmmjpgefinmaaHeapC
import Derived.Deep.AppendLies
/- items are put; the first one; one is taken -/
namespace Go.Proofs.Ythhmmjpgefinmaa
set_option linter.unusedVariables false
set_option linter.unusedSimpArgs false
open Go.RowKit Go.Shelf
attribute [local go_sem] Oper.semAt_some

def push1 (hs : List Item) (x : Item) : List Item := rise (hs ++ [x]) hs.length
theorem push1_len (hs : List Item) (x : Item) : (push1 hs x).length = hs.length + 1 := by simp [push1, rise_len]
def pushes (hs xs : List Item) : List Item := xs.foldl push1 hs
theorem pushes_len : ∀ (xs hs : List Item), (pushes hs xs).length = hs.length + xs.length
  | [], hs => rfl
  | x :: xs, hs => by
    show (pushes (push1 hs x) xs).length = _
    rw [pushes_len xs, push1_len]; simp; omega
theorem pushes_snoc {xs hs : List Item} {k : Nat} {x : Item} (h : xs[k]? = some x) : pushes hs (xs.take (k + 1)) = push1 (pushes hs (xs.take k)) x := by
  rw [List.take_add_one, h]; simp [pushes]
theorem infoI : (Try.prog.info? 94).map (fun i => (i.zero, i.size, i.bytes)) = some (some (.agg #[.int .i64 0, .int .i64 0]), 2, 16) := by kernel_rfl
/-- the blocks of a heap may be more -/
structure Grows (S S' : Nat → Prop) (w : World) : Prop where
  sub : ∀ k, S k → S' k
  new : ∀ k, S' k → S k ∨ w.heap.size ≤ k
theorem Grows.refl (S : Nat → Prop) (w : World) : Grows S S w := ⟨fun _ h => h, fun _ h => .inl h⟩
theorem Grows.trans {S S' S'' : Nat → Prop} {w w' : World} (h : Grows S S' w) (k : Grows S' S'' w') (hs : w.heap.size ≤ w'.heap.size) : Grows S S'' w :=
  ⟨fun i hi => k.sub i (h.sub i hi), fun i hi => (k.new i hi).elim (h.new i) (fun h => .inr (by omega))⟩
theorem Grows.fr {S S' : Nat → Prop} {w w' w'' : World} (h : Grows S S' w) (hf : Fr S w w') (hf' : Fr S' w' w'') : Fr S w w'' := hf.trans hf' (fun i hi hs => (h.new i hs).elim id (fun h => by omega))
theorem rdr_fr0 {S : Nat → Prop} {W W' : World} {size n : Nat} {v : Value} {xs : List Value} (hr : Rdr W size v n xs) (h : Fr S W W') (hs : 0 < n → ∀ g, v.ownBlock = some g → ¬ S g) : Rdr W' size v n xs := by
  obtain ⟨h1, p, c, rfl, h2⟩ := hr
  refine ⟨h1, p, c, rfl, fun hn => ?_⟩
  obtain ⟨b, o, rfl, hc⟩ := h2 hn
  exact ⟨b, o, rfl, fun j u hu => h.cell (hs hn b rfl) (hc j u hu)⟩
theorem rdr_item {W : World} {p : Option Addr} {n c : Nat} {xs : List Item} (h : Rdr W 2 (.slice p n c) n (icells xs)) {k : Nat} {x : Item} (hx : xs[k]? = some x) : ∃ b o, p = some ⟨b, o, none⟩ ∧ W.cell? ⟨b, o + k * 2, none⟩ = some (.int .i64 x.1) ∧ W.cell? ⟨b, o + k * 2 + 1, none⟩ = some (.int .i64 x.2) := by
  have hl := h.1
  rw [icells_len] at hl
  have hk := (List.getElem?_eq_some_iff.1 hx).1
  obtain ⟨b, o, rfl, hc⟩ := h.one (by omega)
  obtain ⟨a, b'⟩ := icells_get hx
  exact ⟨b, o, rfl, hc _ _ a, by have := hc _ _ b'; rwa [← Nat.add_assoc] at this⟩

set_option maxHeartbeats 1000000 in
theorem push_any (S : Nat → Prop) (B : Nat) (v : Value) (hs xs : List Item) (u : Value) (w : World) (h : HeapAt S w B v hs) (hu : Rdr w 2 u xs.length (icells xs)) (hd : 0 < xs.length → ∀ g, u.ownBlock = some g → ¬ S g) (hn : hs.length + xs.length ≤ 1000000) :
    Calls Try.prog 49 #[.pointer (some ⟨B, 0, none⟩), u] w fun e w' => e = .returned (.int .i64 0) ∧ ∃ v' S', HeapAt S' w' B v' (pushes hs xs) ∧ Grows S S' w ∧ Fr S w w' := by
  obtain ⟨hul, up, uc, rfl, -⟩ := id hu
  obtain ⟨n, hnn⟩ : ∃ n, n = xs.length := ⟨_, rfl⟩
  rw [← hnn] at hn hu hd ⊢
  have HN := Lib.hid hnn
  have H := Lib.hid h
  have HU := Lib.hid hu
  have HD := Lib.hid hd
  obtain ⟨-, cb1, -, -⟩ := box2 h.box
  obtain ⟨i0, hi, hz0, hz1, hz2⟩ := info_parts infoI
  clear hnn h hul hu hd
  go_enter Try.func49, Try.ntmps49
  go_wp2_with fail
  refine (made_any cb1).mono ?_
  rintro e w' ⟨rfl, rfl⟩
  clear cb1
  go_wp2_with fail
  go_loopw [12] (fun i wr => ∃ (k : Nat), k ≤ n ∧ i = .int .i64 k ∧ Hid (∃ v' S', HeapAt S' wr B v' (pushes hs (xs.take k)) ∧ Grows S S' w) ∧ Fr S w wr) (fun i _ => n - (intOf i).toNat)
  case atStart => exact ⟨0, by omega, rfl, Lib.hid ⟨v, S, H.out, Grows.refl _ _⟩, Fr.refl _ _⟩
  case round =>
    obtain ⟨k, hk, rfl, HI, hf⟩ := hrel
    by_cases hlt : k < n
    · obtain ⟨x, hx⟩ : ∃ x, xs[k]? = some x := ⟨xs[k]'(by have := HN.out; omega), List.getElem?_eq_getElem _⟩
      obtain ⟨b, o, rfl, cx0, cx1⟩ := rdr_item (rdr_fr0 HU.out hf HD.out) hx
      obtain ⟨v', S', hat, hgr⟩ := HI.out
      have hkl : (pushes hs (xs.take k)).length = hs.length + k := by rw [pushes_len, List.length_take]; have := HN.out; omega
      have HPS := Lib.hid (pushes_snoc (hs := hs) hx)
      generalize pushes hs (xs.take k) = ks at hat hkl HPS
      obtain ⟨p, c, hv⟩ := ownsRow_shape hat.own
      subst hv
      have HAT := Lib.hid hat
      have HGR := Lib.hid hgr
      obtain ⟨cb0, -, fb0, -⟩ := box2 hat.box
      obtain ⟨x0, x1⟩ := x
      simp only at cx0 cx1
      obtain ⟨m, hm⟩ : ∃ m, m = ks.length := ⟨_, rfl⟩
      rw [← hm] at cb0
      have hm6 : m < 1000000 := by omega
      have HM := Lib.hid hm
      have hBl := hat.lt B hat.inB
      have lb := World.block_lt_of_cell? wr _ cx0
      have hgp : ∀ g, (Value.slice p m c).ownBlock = some g → S' g ∧ g ≠ B ∧ g < wr.heap.size := fun g hg => by
        have := hat.inV g (by rw [← hg]; cases p <;> rfl)
        exact ⟨this.1, this.2, hat.lt g this.1⟩
      have HGP := Lib.hid hgp
      have hW1 : G wr (wr.alloc (.cells #[.int .i64 x0, .int .i64 x1] 94)) := (G.refl wr).alloc _
      have cb0' := hW1.cell cb0
      have ca0 : (wr.alloc (.cells #[.int .i64 x0, .int .i64 x1] 94)).cell? ⟨wr.heap.size, 0, none⟩ = some (.int .i64 x0) := cell_alloc_at wr [.int .i64 x0, .int .i64 x1] _ _ 0 _ rfl
      have ca1 : (wr.alloc (.cells #[.int .i64 x0, .int .i64 x1] 94)).cell? ⟨wr.heap.size, 1, none⟩ = some (.int .i64 x1) := cell_alloc_at wr [.int .i64 x0, .int .i64 x1] _ _ 1 _ rfl
      have HX := Lib.hid hx
      clear hx hat hgr hm hkl hgp
      go_upto_region 6 with fail
      refine region_hl (fun w' => w'.cell? ⟨B, 0, none⟩ = some (.slice p m c) ∧ w'.cell? ⟨wr.heap.size, 0, none⟩ = some (.int .i64 x0) ∧ w'.cell? ⟨wr.heap.size, 1, none⟩ = some (.int .i64 x1)) 10 11 (by kernel_rfl) rfl ?_
      simp only [List.replicate_succ, List.replicate_zero]
      have hgd : G (wr.alloc (.cells #[.int .i64 x0, .int .i64 x1] 94)) (wr.alloc (.cells #[.int .i64 x0, .int .i64 x1] 94)).drew := (G.refl _).drew
      have hs0 : (fun w' : World => w'.cell? ⟨B, 0, none⟩ = some (.slice p m c) ∧ w'.cell? ⟨wr.heap.size, 0, none⟩ = some (.int .i64 x0) ∧ w'.cell? ⟨wr.heap.size, 1, none⟩ = some (.int .i64 x1)) (wr.alloc (.cells #[.int .i64 x0, .int .i64 x1] 94)).drew := ⟨hgd.cell cb0', hgd.cell ca0, hgd.cell ca1⟩
      refine hl_take_np 0 (by kernel_rfl) (by kernel_rfl) rfl (by kernel_rfl) hs0 (v := ?_) ?_ ?_
      rotate_left
      · (rintro x ⟨q1, q2, q3⟩; go_simp; try rfl)
      simp only [Act.put, List.setIfInBounds_toArray, List.set_cons_zero, List.set_cons_succ]
      refine hl_take_np 1 (by kernel_rfl) (by kernel_rfl) rfl (by kernel_rfl) hs0 (v := ?_) ?_ ?_
      rotate_left
      · (rintro x ⟨q1, q2, q3⟩; go_simp; try rfl)
      simp only [Act.put, List.setIfInBounds_toArray, List.set_cons_zero, List.set_cons_succ]
      refine hl_take_np 2 (by kernel_rfl) (by kernel_rfl) rfl (by kernel_rfl) hs0 (v := ?_) ?_ ?_
      rotate_left
      · (rintro x ⟨q1, q2, q3⟩; go_simp; try rfl)
      simp only [Act.put, List.setIfInBounds_toArray, List.set_cons_zero, List.set_cons_succ]
      refine hl_take_np 3 (by kernel_rfl) (by kernel_rfl) rfl (by kernel_rfl) hs0 (v := ?_) ?_ ?_
      rotate_left
      · (rintro x ⟨q1, q2, q3⟩; go_simp; try rfl)
      simp only [Act.put, List.setIfInBounds_toArray, List.set_cons_zero, List.set_cons_succ]
      refine hl_take_np 4 (by kernel_rfl) (by kernel_rfl) rfl (by kernel_rfl) hs0 (v := ?_) ?_ ?_
      rotate_left
      · (rintro x ⟨q1, q2, q3⟩; go_simp; try rfl)
      simp only [Act.put, List.setIfInBounds_toArray, List.set_cons_zero, List.set_cons_succ]
      refine hl_take_np 5 (by kernel_rfl) (by kernel_rfl) rfl (by kernel_rfl) hs0 (v := ?_) ?_ ?_
      rotate_left
      · (rintro x ⟨q1, q2, q3⟩; go_simp; try rfl)
      simp only [Act.put, List.setIfInBounds_toArray, List.set_cons_zero, List.set_cons_succ]
      refine hl_step 6 (by kernel_rfl) rfl ?_
      go_wp2_with fail
      show _ ∧ _
      have hA : G (wr.alloc (.cells #[.int .i64 x0, .int .i64 x1] 94)) (((wr.alloc (.cells #[.int .i64 x0, .int .i64 x1] 94)).alloc (.cells #[.int .i64 x0, .int .i64 x1] 94)).drew) := ((G.refl _).alloc _).drew
      have hA2 := hW1.trans hA
      have qB := hA.cell cb0'
      have q0 := hA.cell ca0
      have q1 := hA.cell ca1
      refine ⟨(by first | exact ⟨qB, q0, q1⟩ | exact fun _ => ⟨qB, q0, q1⟩), ?_⟩
      refine hl_step 7 (by kernel_rfl) rfl ?_
      have hnew : (((wr.alloc (.cells #[.int .i64 x0, .int .i64 x1] 94)).alloc (.cells #[.int .i64 x0, .int .i64 x1] 94)).drew).heap[wr.heap.size + 1]? = some (.cells #[.int .i64 x0, .int .i64 x1] 94) := by
        have := alloc_new (wr.alloc (.cells #[.int .i64 x0, .int .i64 x1] 94)) (.cells #[.int .i64 x0, .int .i64 x1] 94)
        rwa [World.size_alloc] at this
      have hown0 : wr.ownsRow 0 94 2 (.slice p m c) m (icells ks) := by have := HAT.out.own; rwa [← HM.out] at this
      refine wpList_append2 _ rfl _ _ 98 rfl 0 94 i0 (.agg #[.int .i64 0, .int .i64 0]) 2 16 Try.underlying98 hi hz0 hz1 hz2 rfl (by decide) (.slice p m c) m (icells ks) rfl (hA2.ownsRow hown0) ⟨wr.heap.size + 1, 0, none⟩ 1 1 [.int .i64 x0, .int .i64 x1] rfl rfl (World.news_of_block (cs := #[.int .i64 x0, .int .i64 x1]) (t := 94) (fr := (0, 0)) hnew) (by simp [Value.oneCell']) (by unfold maxLen; omega) (by omega) (Nat.zero_le _) ?_
      intro v2 wa hown hgrow hnil hat
      obtain ⟨p2, c2, rfl⟩ := ownsRow_shape hown
      have hfa := grownBy_fr hgrow
      have hnz : ∀ g, (g = B ∨ wr.heap.size ≤ g) → ¬ (Value.slice p m c).ownBlock = some g := fun g hg e => by have := HGP.out g e; omega
      have aB := hfa.cell (p := ⟨B, 0, none⟩) (hnz B (.inl rfl)) qB
      have a0 := hfa.cell (p := ⟨wr.heap.size, 0, none⟩) (hnz wr.heap.size (.inr (Nat.le_refl _))) q0
      have a1 := hfa.cell (p := ⟨wr.heap.size, 1, none⟩) (hnz wr.heap.size (.inr (Nat.le_refl _))) q1
      have fBa : wa.frozen? ⟨B, 0, none⟩ = false := by
        have hb := (hfa.block B (by have := hA2.size; omega) (hnz B (.inl rfl))).trans ((hA2.block hBl).trans HAT.out.box)
        exact (box2 hb).2.2.1
      have hfr1 : Fr (fun q => (Value.slice p m c).ownBlock = some q) wr wa := (hA2.fr _).trans hfa (fun _ _ h => h)
      have hza := hfr1.size
      have hzw := hf.size
      have HA5 := Lib.hid (And.intro hown (And.intro hfr1 hat))
      clear hown hgrow hnil hat hfa hfr1 hown0 hnew qB q0 q1 hA ca0 ca1 cb0' hs0 hgd hW1
      show _ ∧ _
      refine ⟨(by first | exact ⟨aB, a0, a1⟩ | exact fun _ => ⟨aB, a0, a1⟩), ?_⟩
      refine hl_step 8 (by kernel_rfl) rfl ?_
      go_wp2_with fail
      show _ ∧ _
      refine ⟨(by first | exact ⟨aB, a0, a1⟩ | exact fun _ => ⟨aB, a0, a1⟩), ?_⟩
      refine hl_step 9 (by kernel_rfl) rfl ?_
      go_wp2_with fail
      show _ ∧ _
      refine ⟨(by first | exact ⟨aB, a0, a1⟩ | exact fun _ => ⟨aB, a0, a1⟩), ?_⟩
      refine hl_step 10 (by kernel_rfl) rfl ?_
      go_wp2_with fail
      show _ ∧ _
      refine ⟨(by first | exact fun h => absurd rfl h | trivial), ?_⟩
      refine hl_done (by kernel_rfl) ?_ _
      refine NoPanic.normal ?_
      have hstB : Fr (fun q => q = B) wa (wa.setCell ⟨B, 0, none⟩ (.slice p2 (m + 1) c2)) := (Fr.refl (fun q => q = B) wa).setCell (p := ⟨B, 0, none⟩) (.inl rfl) _
      have hneB : ∀ g, (Value.slice p2 (m + 1) c2).ownBlock = some g → g ≠ B ∧ (S' g ∨ wr.heap.size ≤ g) := fun g hg => by
        rcases HA5.out.2.2 g hg with h | h
        · exact ⟨(HGP.out g h).2.1, .inl (HGP.out g h).1⟩
        · simp at h; exact ⟨by omega, .inr (by omega)⟩
      have hlen1 : (ks ++ [(x0, x1)]).length = m + 1 := by rw [List.length_append, ← HM.out]; rfl
      have hat5 : HeapAt (fun q => S' q ∨ (Value.slice p2 (m + 1) c2).ownBlock = some q) (wa.setCell ⟨B, 0, none⟩ (.slice p2 (m + 1) c2)) B (.slice p2 (m + 1) c2) (ks ++ [(x0, x1)]) := by
        refine ⟨?_, ?_, .inl HAT.out.inB, fun g hg => ⟨.inr hg, (hneB g hg).1⟩, fun q hq => ?_⟩
        · have hb := (HA5.out.2.1.block B hBl (hnz B (.inl rfl))).trans HAT.out.box
          have := heap_setCell_at wa B 0 (.slice p2 (m + 1) c2) _ _ _ hb
          simpa using this
        · rw [hlen1, icells_app]
          exact hstB.ownsRow HA5.out.1 (fun g hg e => (hneB g hg).1 e)
        · rcases hq with h | h
          · have := HAT.out.lt q h; simp; omega
          · have := (HA5.out.1.lt q h).2; simpa using this
      have hcb5 := (box2 hat5.box).1
      have HS5 : Hid (Grows S (fun q => S' q ∨ (Value.slice p2 (m + 1) c2).ownBlock = some q) w) := Lib.hid ⟨fun q hq => .inl (HGR.out.sub q hq), fun q hq => hq.elim (HGR.out.new q) (fun h => (hneB q h).2.elim (HGR.out.new q) (fun h => .inr (by omega)))⟩
      have HF5 : Hid (Fr S w (wa.setCell ⟨B, 0, none⟩ (.slice p2 (m + 1) c2))) := Lib.hid ((hf.trans HA5.out.2.1 (fun q hq e => ((HGR.out.new q (HGP.out q e).1).elim id (fun h => absurd hq (by omega))))).setCell (p := ⟨B, 0, none⟩) (HGR.out.new B HAT.out.inB) _)
      have HAT5 := Lib.hid hat5
      have HL5 := Lib.hid hlen1
      have hRise := rise_any _ B _ (ks ++ [(x0, x1)]) m _ hat5 (by omega) (by omega)
      have HRISE := Lib.hid hRise
      clear hat5 hstB hneB hlen1 aB a0 a1 fBa hnz hRise hf cx0 cx1 cb0 fb0 hza hzw
      go_wp2_with fail
      refine HRISE.out.mono ?_
      rintro e w5 ⟨⟨uu, rfl⟩, hat6, hf6⟩
      have HAT6 := Lib.hid hat6
      have hfe := HS5.out.fr HF5.out hf6
      have HI6 : Hid (∃ v' S', HeapAt S' w5 B v' (pushes hs (xs.take (k + 1))) ∧ Grows S S' w) := Lib.hid ⟨_, _, (by
        rw [HPS.out]; unfold push1; rw [← HM.out]; exact HAT6.out), HS5.out⟩
      clear hat6 hf6 hcb5
      go_wp2_with fail
      go_roundw
      case rel => exact ⟨k + 1, by omega, by go_num, HI6, hfe⟩
      case measure => simp [intOf]; omega
    · have HI6 : Hid (∃ v' S', HeapAt S' wr B v' (pushes hs xs) ∧ Grows S S' w) := Lib.hid (by
        have h1 := HI.out
        rwa [List.take_of_length_le (by have := HN.out; omega)] at h1)
      go_wp2_with fail
      go_ret
      obtain ⟨v', S', h1, h2⟩ := HI6.out
      exact ⟨rfl, v', S', h1, h2, hf⟩
end Go.Proofs.Ythhmmjpgefinmaa
