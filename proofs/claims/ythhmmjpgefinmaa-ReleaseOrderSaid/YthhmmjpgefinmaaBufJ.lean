/- laid together: BufI BufJ -/
import Derived.Test.YthhmmjpgefinmaaSortM
import Derived.Shelf.Spec.SlicesInsertGrow
import Derived.Test.YthhmmjpgefinmaaSortRf
namespace Go.Proofs.Ythhmmjpgefinmaa
set_option linter.unusedVariables false
set_option linter.unusedSimpArgs false
open Go.RowKit Go.Shelf
attribute [local go_sem] Oper.semAt_some

theorem run_copy_row5 {P : Program} (w : World) (dT sT ty elem : TypeId) (g o dLen dCap : Nat) (a : Addr) (sLen sCap : Nat) (cur : Array Value) (t : TypeId) (cs : List Value) (k : Nat)
    (hu : P.underlying dT = some (.slice elem)) (hs : (P.info? elem).map (·.size) = some 5)
    (hg : w.heap[g]? = some (.cells cur t (0, 0))) (hk : Nat.min sLen dLen = k) (hn : cs.length = k * 5)
    (hsrc : ∀ j v, cs[j]? = some v → w.cell? (a.add j) = some v) (hfit : o + cs.length ≤ cur.size) (h1 : ∀ v ∈ cs, v.oneCell' = true) :
    (Builtin.copy_ #[dT, sT] ty #[.slice (some ⟨g, o, none⟩) dLen dCap, .slice (some a) sLen sCap]).run P w =
      .ok (goInt k) (w.setRow g (cur.toList.take o ++ cs ++ cur.toList.drop (o + cs.length)).toArray) := by
  have hl := run_loadCells_list (P := P) w a cs hsrc
  have hst := run_storeCells_at P g o t cs 0 cur w hg (by simpa using hfit) h1
  cases hq : P.info? elem with
  | none => simp [hq] at hs
  | some i =>
    have hi : i.size = 5 := by simpa [hq] using hs
    rw [hn] at hl
    simp [Builtin.copy_, run_underlying hu, Builtin.lenOf, Builtin.firstCells, sizeOf, typeInfo, hq, hi, hk, hl, hst]
theorem setRow_fr (w : World) (g : Nat) (cs : Array Value) : Fr (fun q => q = g) w (w.setRow g cs) :=
  ⟨rfl, rfl, rfl, by simp [World.setRow], fun k _ hk => setRow_other w g k cs hk⟩
/-- block g, from cell off on, holds the row L of n edges, with room for c -/
structure RowAt (W : World) (g off n c : Nat) (L : List Edg) : Prop where
  blk : ∃ A Z : List Value, W.heap[g]? = some (.cells (A ++ (ecs L ++ Z)).toArray 51 (0, 0)) ∧ A.length = off ∧ Z.length = (c - n) * 5
  len : L.length = n
  cap : n ≤ c ∧ c ≤ 9223372036854775807
  isE : ∀ E ∈ L, IsE E
theorem RowAt.lt {W : World} {g off n c : Nat} {L : List Edg} (h : RowAt W g off n c L) : g < W.heap.size := by
  obtain ⟨A, Z, hb, -⟩ := h.blk; exact heap_lt hb
theorem RowAt.fr {S : Nat → Prop} {W W' : World} {g off n c : Nat} {L : List Edg} (h : RowAt W g off n c L) (hf : Fr S W W') (hS : ¬ S g) : RowAt W' g off n c L := by
  have hl := h.lt
  obtain ⟨⟨A, Z, hb, r⟩, x, y, z⟩ := h
  exact ⟨⟨A, Z, (hf.block g hl hS).trans hb, r⟩, x, y, z⟩
theorem RowAt.cell {W : World} {g off n c : Nat} {L : List Edg} (h : RowAt W g off n c L) {j : Nat} {v : Value} (hj : (ecs L)[j]? = some v) : W.cell? ⟨g, off + j, none⟩ = some v := by
  obtain ⟨⟨A, Z, hb, hA, -⟩, -, -, -⟩ := h
  have hlt := (List.getElem?_eq_some_iff.1 hj).1
  simp only [World.cell?, hb]
  rw [List.getElem?_toArray, List.getElem?_append_right (by omega), List.getElem?_append_left (by omega), show off + j - A.length = j by omega]
  simpa using hj
theorem RowAt.rdr {W : World} {g off n c : Nat} {L : List Edg} (h : RowAt W g off n c L) : Rdr W 5 (.slice (some ⟨g, off, none⟩) n c) n (ecs L) :=
  ⟨by rw [ecs_len, h.len], _, _, rfl, fun _ => ⟨g, off, rfl, fun j u hj => h.cell hj⟩⟩
theorem rowAt_of_owns {W : World} {base g n c : Nat} {L : List Edg} (h : W.ownsRow base 51 5 (.slice (some ⟨g, 0, none⟩) n c) n (ecs L)) (hE : ∀ E ∈ L, IsE E) : RowAt W g 0 n c L := by
  obtain ⟨hl, h2⟩ := h
  rcases h2 with ⟨h, -⟩ | ⟨g', cap, cur, he, hb, hh, hc, hm, hs, ht⟩
  · cases h
  · cases he
    have hn : L.length = n := by rw [ecs_len] at hl; omega
    refine ⟨⟨[], cur.toList.drop (n * 5), ?_, rfl, ?_⟩, hn, ⟨hc, by unfold maxLen at hm; omega⟩, hE⟩
    · rw [← ht, List.nil_append, List.take_append_drop, Array.toArray_toList]; exact hh
    · rw [List.length_drop, Array.length_toList, hs, Nat.sub_mul]
/-- what a number's slice is: none, or a row -/
def RowV (W : World) (v : Value) (L : List Edg) : Prop := (v = .slice none 0 0 ∧ L = []) ∨ ∃ g off c, v = .slice (some ⟨g, off, none⟩) L.length c ∧ RowAt W g off L.length c L
theorem RowV.rdr {W : World} {v : Value} {L : List Edg} (h : RowV W v L) : Rdr W 5 v L.length (ecs L) := by
  rcases h with ⟨rfl, rfl⟩ | ⟨g, off, c, rfl, h⟩
  · exact Rdr.nil _ _ _ _
  · exact h.rdr
theorem RowV.isE {W : World} {v : Value} {L : List Edg} (h : RowV W v L) : ∀ E ∈ L, IsE E := by
  rcases h with ⟨rfl, rfl⟩ | ⟨g, off, c, rfl, h⟩
  · intro E hE; cases hE
  · exact h.isE
theorem RowV.fr {S : Nat → Prop} {W W' : World} {v : Value} {L : List Edg} (h : RowV W v L) (hf : Fr S W W') (hS : ∀ g, v.ownBlock = some g → ¬ S g) : RowV W' v L := by
  rcases h with h | ⟨g, off, c, rfl, h⟩
  · exact .inl h
  · exact .inr ⟨g, off, c, rfl, h.fr hf (hS g rfl)⟩
theorem RowV.lt {W : World} {v : Value} {L : List Edg} (h : RowV W v L) {g : Nat} (hg : v.ownBlock = some g) : g < W.heap.size := by
  rcases h with ⟨rfl, rfl⟩ | ⟨g', off, c, rfl, h⟩
  · cases hg
  · cases hg; exact h.lt
theorem RowV.shape {W : World} {v : Value} {L : List Edg} (h : RowV W v L) : ∃ p c, v = .slice p L.length c := by
  rcases h with ⟨rfl, rfl⟩ | ⟨g', off, c, rfl, h⟩
  · exact ⟨_, _, rfl⟩
  · exact ⟨_, _, rfl⟩
/-- .. with one edge more -/
def Inserted (w : World) (v : Value) (L : List Edg) (i : Nat) (E : Edg) (e : Ending) (w' : World) : Prop :=
  ∃ g off c, e = .returned (.slice (some ⟨g, off, none⟩) (L.length + 1) c) ∧ RowAt w' g off (L.length + 1) c (L.take i ++ E :: L.drop i) ∧ Fr (fun q => q = g) w w' ∧ (v.ownBlock = some g ∨ w.heap.size ≤ g)
theorem ins_isE {L : List Edg} {i : Nat} {E : Edg} (h : ∀ x ∈ L, IsE x) (hE : IsE E) : ∀ x ∈ L.take i ++ E :: L.drop i, IsE x := fun x hx => by
  rcases List.mem_append.1 hx with hx | hx
  · exact h x (List.mem_of_mem_take hx)
  · rcases List.mem_cons.1 hx with rfl | hx
    · exact hE
    · exact h x (List.mem_of_mem_drop hx)
theorem ins_len {L : List Edg} {i : Nat} {E : Edg} (hi : i ≤ L.length) : (L.take i ++ E :: L.drop i).length = L.length + 1 := by
  simp; omega
theorem ecs_drop : ∀ (l : List Edg) (n : Nat), (ecs l).drop (n * 5) = ecs (l.drop n)
  | [], n => by simp [ecs]
  | x :: l, 0 => by simp
  | x :: l, n + 1 => by rw [show (n + 1) * 5 = n * 5 + 5 by omega]; simp only [ecs, List.drop_succ_cons]; exact ecs_drop l n
theorem ecs_split (l : List Edg) (n : Nat) : ecs l = ecs (l.take n) ++ ecs (l.drop n) := by rw [← ecs_app, List.take_append_drop]
/-- two writings: first the tail further behind, then the edge -/
theorem splice_two (X Y Z e : List Value) (he : e.length = 5) (hz : 5 ≤ Z.length) :
    (((X ++ (Y ++ Z)).take (X.length + 5) ++ Y ++ (X ++ (Y ++ Z)).drop (X.length + 5 + Y.length)).take X.length ++ e ++ ((X ++ (Y ++ Z)).take (X.length + 5) ++ Y ++ (X ++ (Y ++ Z)).drop (X.length + 5 + Y.length)).drop (X.length + e.length)) = X ++ (e ++ (Y ++ Z.drop 5)) := by
  have h1 : (X ++ (Y ++ Z)).take (X.length + 5) = X ++ (Y ++ Z).take 5 := by rw [List.take_append, List.take_of_length_le (by omega)]; simp
  have h2 : (X ++ (Y ++ Z)).drop (X.length + 5 + Y.length) = Z.drop 5 := by
    rw [List.drop_append, List.drop_of_length_le (by omega), List.nil_append, show X.length + 5 + Y.length - X.length = Y.length + 5 by omega, List.drop_append, List.drop_of_length_le (by omega), List.nil_append, show Y.length + 5 - Y.length = 5 by omega]
  have h3 : ((Y ++ Z).take 5).length = 5 := by simp; omega
  rw [h1, h2, he]
  have h4 : ((X ++ (Y ++ Z).take 5) ++ Y ++ Z.drop 5).take X.length = X := by simp
  have h5 : ((X ++ (Y ++ Z).take 5) ++ Y ++ Z.drop 5).drop (X.length + 5) = Y ++ Z.drop 5 := by
    rw [List.append_assoc, List.drop_append, List.drop_of_length_le (by simp; omega), List.nil_append]
    have : X.length + 5 - (X ++ (Y ++ Z).take 5).length = 0 := by rw [List.length_append, h3]; omega
    rw [this, List.drop_zero]
  rw [h4, h5]
  simp
/-- the same in a new row: the edge, then the tail -/
theorem splice_new (X Y Z e : List Value) (he : e.length = 5) (hz : Y.length + 5 ≤ Z.length) :
    (((X ++ Z).take X.length ++ e ++ (X ++ Z).drop (X.length + e.length)).take (X.length + 5) ++ Y ++ ((X ++ Z).take X.length ++ e ++ (X ++ Z).drop (X.length + e.length)).drop (X.length + 5 + Y.length)) = X ++ (e ++ (Y ++ Z.drop (5 + Y.length))) := by
  have h1 : (X ++ Z).take X.length = X := by simp
  have h2 : (X ++ Z).drop (X.length + e.length) = Z.drop 5 := by rw [List.drop_append, List.drop_of_length_le (by omega), List.nil_append, show X.length + e.length - X.length = 5 by omega]
  rw [h1, h2]
  have h3 : (X ++ e ++ Z.drop 5).take (X.length + 5) = X ++ e := by
    rw [List.take_append, List.take_of_length_le (by simp; omega)]
    have : X.length + 5 - (X ++ e).length = 0 := by simp; omega
    rw [this]; simp
  have h4 : (X ++ e ++ Z.drop 5).drop (X.length + 5 + Y.length) = Z.drop (5 + Y.length) := by
    rw [List.drop_append, List.drop_of_length_le (by simp; omega), List.nil_append, show X.length + 5 + Y.length - (X ++ e).length = Y.length by simp; omega, List.drop_drop]
  rw [h3, h4]
  simp
theorem sz5 : (Try.prog.info? 51).map (·.size) = some 5 := by
  obtain ⟨i0, hi, -, h, -⟩ := info_parts infoE
  rw [hi]; simp [h]
theorem shape_cells {w : World} {b : Nat} {cs : Array Value} {t : TypeId} (h : w.heap[b]? = some (.cells cs t (0, 0))) : w.shape? b = some (t, cs.size) := by simp [World.shape?, h]
theorem froz_cells {w : World} {b o : Nat} {cs : Array Value} {t : TypeId} (h : w.heap[b]? = some (.cells cs t (0, 0))) : w.frozen? ⟨b, o, none⟩ = false := by simp [World.frozen?, h]
set_option maxHeartbeats 4000000 in
/-- there is room, ahead of one that is there -/
theorem insert_shift (g off n c i vb : Nat) (L : List Edg) (E : Edg) (w : World) (h : RowAt w g off n c L) (hi : i < n) (hroom : n + 1 ≤ c) (hv : w.heap[vb]? = some (.cells (ecs [E]).toArray 51 (0, 0))) (hE : IsE E) (hne : vb ≠ g) (hn : n ≤ 1000000) :
    Calls Try.prog 50 #[.slice (some ⟨g, off, none⟩) n c, .int .i64 i, .slice (some ⟨vb, 0, none⟩) 1 1] w fun e w' =>
      e = .returned (.slice (some ⟨g, off, none⟩) (n + 1) c) ∧ RowAt w' g off (n + 1) c (L.take i ++ E :: L.drop i) ∧ Fr (fun q => q = g) w w' := by
  obtain ⟨A, Z, hb, hA, hZ⟩ := h.blk
  have hL := h.len
  have hc63 := h.cap.2
  have hz5 : 5 ≤ Z.length := by rw [hZ]; omega
  have hTl : (ecs (L.take i)).length = i * 5 := by rw [ecs_len, List.length_take]; congr 1; omega
  have hDl : (ecs (L.drop i)).length = (n - i) * 5 := by rw [ecs_len, List.length_drop, hL]
  have hEl : (ecs [E]).length = 5 := rfl
  obtain ⟨X, hX⟩ : ∃ X, X = A ++ ecs (L.take i) := ⟨_, rfl⟩
  have hXl : X.length = off + i * 5 := by rw [hX, List.length_append, hA, hTl]
  have hcur : A ++ (ecs L ++ Z) = X ++ (ecs (L.drop i) ++ Z) := by rw [hX, ecs_split L i]; simp
  rw [hcur] at hb
  have hcl : (X ++ (ecs (L.drop i) ++ Z)).length = off + i * 5 + ((n - i) * 5 + Z.length) := by rw [List.length_append, List.length_append, hXl, hDl]
  have hone := ecs_one L h.isE
  have hone2 := ecs_one [E] (fun F hF => by rw [List.mem_singleton.1 hF]; exact hE)
  have hoff1 : off + (i + 1) * 5 = X.length + 5 := by rw [hXl]; omega
  have hov : ∀ lb cb, (callFunc 65 #[.slice (some ⟨vb, 0, none⟩) 1 1, .slice (some ⟨g, off + (i + 1) * 5, none⟩) lb cb]).run Try.prog w = .ok (.value (.bool false)) w := fun lb cb => by
    rw [run_callFunc_extern Try.func65 (by kernel_rfl) (by kernel_rfl) (by kernel_rfl) (e := Extern.SlicesOverlaps.overlaps #[40, 40] #[4]) (by kernel_rfl),
      Lib.run_overlaps_apart w 40 4 51 Try.underlying40 5 (Try.sizeOf51) ⟨vb, 0, none⟩ ⟨g, off + (i + 1) * 5, none⟩ 1 1 lb cb hne _ _ _ _ (shape_cells hv) (shape_cells hb) (by simp only [List.size_toArray]; rw [hcl]; omega) (froz_cells hv) (froz_cells hv)]
    rfl
  obtain ⟨W1, hW1⟩ : ∃ W1, W1 = w.drew.setRow g ((X ++ (ecs (L.drop i) ++ Z)).take (X.length + 5) ++ ecs (L.drop i) ++ (X ++ (ecs (L.drop i) ++ Z)).drop (X.length + 5 + (ecs (L.drop i)).length)).toArray := ⟨_, rfl⟩
  have hb1 : W1.heap[g]? = some (.cells ((X ++ (ecs (L.drop i) ++ Z)).take (X.length + 5) ++ ecs (L.drop i) ++ (X ++ (ecs (L.drop i) ++ Z)).drop (X.length + 5 + (ecs (L.drop i)).length)).toArray 51 (0, 0)) := by
    rw [hW1]; exact setRow_heap w.drew g _ _ _ _ hb
  have hf1 : Fr (fun q => q = g) w W1 := by rw [hW1]; exact ((Fr.refl _ w).drew).trans (setRow_fr _ _ _) (fun _ _ h => h)
  have hvl : vb < w.heap.size := heap_lt hv
  have hv1 : W1.heap[vb]? = some (.cells (ecs [E]).toArray 51 (0, 0)) := (hf1.block vb hvl hne).trans hv
  have hcp1 : ∀ ty dc sc, (Builtin.copy_ #[40, 40] ty #[.slice (some ⟨g, off + (i + 1) * 5, none⟩) (n + 1 - (i + 1)) dc, .slice (some ⟨g, off + i * 5, none⟩) (n + 1 - i) sc]).run Try.prog w.drew = .ok (goInt ((n - i : Nat) : Int)) W1 := fun ty dc sc => by
    have := run_copy_row5 w.drew 40 40 ty 51 g (off + (i + 1) * 5) (n + 1 - (i + 1)) dc ⟨g, off + i * 5, none⟩ (n + 1 - i) sc (X ++ (ecs (L.drop i) ++ Z)).toArray 51 (ecs (L.drop i)) (n - i) Try.underlying40 sz5 hb (by simp only [Nat.min_def]; split <;> omega) hDl
      (fun j v hj => by
        rw [Addr.add_lit, Nat.add_assoc]
        refine h.cell ?_
        rw [← ecs_drop, List.getElem?_drop] at hj
        exact hj) (by rw [hDl]; simp only [List.size_toArray]; rw [hcl]; omega) (fun u hu => hone u (by rw [ecs_split L i]; exact List.mem_append_right _ hu))
    rw [this, hW1, hoff1]
  obtain ⟨W2, hW2⟩ : ∃ W2, W2 = W1.setRow g (X ++ (ecs [E] ++ (ecs (L.drop i) ++ Z.drop 5))).toArray := ⟨_, rfl⟩
  have hcp2 : ∀ ty dc, (Builtin.copy_ #[40, 40] ty #[.slice (some ⟨g, off + i * 5, none⟩) (n + 1 - i) dc, .slice (some ⟨vb, 0, none⟩) 1 1]).run Try.prog W1 = .ok (goInt ((1 : Nat) : Int)) W2 := fun ty dc => by
    have := run_copy_row5 W1 40 40 ty 51 g (off + i * 5) (n + 1 - i) dc ⟨vb, 0, none⟩ 1 1 _ 51 (ecs [E]) 1 Try.underlying40 sz5 hb1 (by simp only [Nat.min_def]; split <;> omega) hEl
      (fun j v hj => by
        rw [Addr.add_lit, Nat.zero_add]
        simp only [World.cell?, hv1]
        simpa using hj) (by rw [hEl]; simp only [List.size_toArray, List.length_append, List.length_take, List.length_drop, hXl, hDl]; omega) hone2
    rw [this, hW2, ← hXl]
    simp only []
    rw [splice_two X _ Z (ecs [E]) hEl hz5]
  have hF : Hid (RowAt W2 g off (n + 1) c (L.take i ++ E :: L.drop i) ∧ Fr (fun q => q = g) w W2) := by
    refine Lib.hid ⟨⟨⟨A, Z.drop 5, ?_, hA, by rw [List.length_drop, hZ]; omega⟩, by rw [ins_len (by omega), hL], ⟨hroom, hc63⟩, ins_isE h.isE hE⟩, ?_⟩
    · rw [hW2, setRow_heap W1 g _ _ _ _ hb1, hX, ecs_app]
      congr 3
      simp [ecs]
    · rw [hW2]; exact hf1.trans (setRow_fr _ _ _) (fun _ _ h => h)
  have hz1 : ¬ ((1 : Int) = 0) := by omega
  have hz2 : ¬ ((i : Int) = (n : Int)) := by omega
  have hw1 : IntKind.i64.wrap ((i : Int) + 1) = (i : Int) + 1 := by rw [IntKind.wrap_i64]; omega
  have hw2 : IntKind.i64.wrap ((n : Int) + 1) = (n : Int) + 1 := by rw [IntKind.wrap_i64]; omega
  have mixed : Try.prog.follows .mixedOrders = true := by kernel_rfl
  have ha1 : (0 : Int) ≤ (i : Int) + 1 := by omega
  have ha2 : i ≤ n := by omega
  have ha3 : ((i : Int) + 1).toNat = i + 1 := by omega
  have ha4 : ¬ (c = i + 1) := by omega
  have ha5 : (i : Int) ≤ (n : Int) + 1 := by omega
  have ha6 : ¬ (c = i) := by omega
  clear hW1 hW2 hb1 hf1 hv1 hb hcur hX hXl hoff1 hone hone2 hv hcl hDl hTl h hA hZ hz5
  go_enter Try.func50, Try.ntmps50
  go_wp2_with (simp only [hov])
  go_region_law_o (refine step_copy_runI rfl _ _ 40 40 rfl (.slice (some ⟨g, off + (i + 1) * 5, none⟩) (n + 1 - (i + 1)) (c - (i + 1))) (.slice (some ⟨g, off + i * 5, none⟩) (n + 1 - i) (c - i)) (by simp [Act.eval, Act.put]) (by simp [Act.eval, Act.put]) (hcp1 3 _ _) ?_)
  go_wp2_with (at_builtin; refine wpList_copy_runI _ rfl _ _ 40 40 rfl _ _ rfl rfl (hcp2 _ _) ?_)
  go_ret
  exact ⟨rfl, hF.out⟩
end Go.Proofs.Ythhmmjpgefinmaa

set_option maxRecDepth 20000
namespace Go.Proofs.Ythhmmjpgefinmaa
set_option linter.unusedVariables false
set_option linter.unusedSimpArgs false
open Go.RowKit Go.Shelf
attribute [local go_sem] Oper.semAt_some

set_option maxHeartbeats 4000000 in
/-- at the end, there is room -/
theorem insert_end_room (g off n c vb : Nat) (L : List Edg) (E : Edg) (w : World) (h : RowAt w g off n c L) (hroom : n + 1 ≤ c) (hv : w.heap[vb]? = some (.cells (ecs [E]).toArray 51 (0, 0))) (hE : IsE E) (hn : n ≤ 1000000) :
    Calls Try.prog 50 #[.slice (some ⟨g, off, none⟩) n c, .int .i64 n, .slice (some ⟨vb, 0, none⟩) 1 1] w fun e w' =>
      e = .returned (.slice (some ⟨g, off, none⟩) (n + 1) c) ∧ RowAt w' g off (n + 1) c (L ++ [E]) ∧ Fr (fun q => q = g) w w' := by
  obtain ⟨A, Z, hb, hA, hZ⟩ := h.blk
  have hL := h.len
  have hc63 := h.cap.2
  have hz5 : 5 ≤ Z.length := by rw [hZ]; omega
  have hone2 := ecs_one [E] (fun F hF => by rw [List.mem_singleton.1 hF]; exact hE)
  have hEl : (ecs [E]).length = 5 := rfl
  have hXl : (A ++ ecs L).length = off + n * 5 := by rw [List.length_append, hA, ecs_len, hL]
  have hb' : w.heap[g]? = some (.cells ((A ++ ecs L) ++ Z).toArray 51 (0, 0)) := by rw [hb]; simp
  obtain ⟨i0, hi, hz0, hz1, hz2⟩ := info_parts infoE
  obtain ⟨W1, hW1⟩ : ∃ W1, W1 = w.setRow g ((A ++ ecs L) ++ (ecs [E] ++ Z.drop 5)).toArray := ⟨_, rfl⟩
  have hsrc : ∀ j v, (ecs [E])[j]? = some v → w.cell? ((⟨vb, 0, none⟩ : Addr).add j) = some v := fun j v hj => by
    rw [Addr.add_lit, Nat.zero_add]
    simp only [World.cell?, hv]
    simpa using hj
  have hl := run_loadCells_list (P := Try.prog) w ⟨vb, 0, none⟩ (ecs [E]) hsrc
  have hst := run_storeCells_at Try.prog g (off + n * 5) 51 (ecs [E]) 0 _ w hb' (by simp only [List.size_toArray, List.length_append] at *; rw [hXl, hEl]; omega) hone2
  have hap : ∀ ty, (Builtin.append_ #[40, 40] ty #[.slice (some ⟨g, off, none⟩) n c, .slice (some ⟨vb, 0, none⟩) 1 1]).run Try.prog w = .ok (.slice (some ⟨g, off, none⟩) (n + 1) c) W1 := fun ty => by
    have hs2 : (storeCells ⟨g, off + n * 5, none⟩ (ecs [E]) 0).run Try.prog w = .ok () W1 := by
      rw [hst, hW1]
      have e1 : ((A ++ ecs L) ++ Z).take (A ++ ecs L).length = A ++ ecs L := by rw [List.take_append, List.take_of_length_le (by omega)]; simp
      have e2 : ((A ++ ecs L) ++ Z).drop ((A ++ ecs L).length + 5) = Z.drop 5 := by
        rw [List.drop_append, List.drop_of_length_le (by omega), List.nil_append, show (A ++ ecs L).length + 5 - (A ++ ecs L).length = 5 by omega]
      simp only [Nat.add_zero]
      rw [hEl, ← hXl, e1, e2, List.append_assoc]
    rw [hEl] at hl
    simp [Builtin.append_, run_underlying Try.underlying40, sizeOf, typeInfo, hi, hz1, Builtin.lenOf, Builtin.firstCells, hroom, Addr.add_lit, hl, hs2]
  have hF : Hid (RowAt W1 g off (n + 1) c (L ++ [E]) ∧ Fr (fun q => q = g) w W1) := by
    refine Lib.hid ⟨⟨⟨A, Z.drop 5, ?_, hA, by rw [List.length_drop, hZ]; omega⟩, by simp [hL], ⟨hroom, hc63⟩, fun x hx => ?_⟩, ?_⟩
    · rw [hW1, setRow_heap w g _ _ _ _ hb', ecs_app, show A ++ ecs L ++ (ecs [E] ++ Z.drop 5) = A ++ (ecs L ++ ecs [E] ++ Z.drop 5) by simp only [List.append_assoc]]
    · rcases List.mem_append.1 hx with hx | hx
      · exact h.isE x hx
      · rw [List.mem_singleton.1 hx]; exact hE
    · rw [hW1]; exact setRow_fr _ _ _
  have hz1' : ¬ ((1 : Int) = 0) := by omega
  clear hW1 hb hb' hl hst hsrc h hA hZ hz5 hv hi hz0 hz1 hz2 hone2
  go_enter Try.func50, Try.ntmps50
  go_wp2_with (at_builtin; refine Lib.wpList_append_run _ rfl _ _ _ _ rfl _ _ rfl rfl _ _ (hap _) ?_)
  go_ret
  exact ⟨rfl, hF.out⟩
set_option maxHeartbeats 4000000 in
/-- at the end of none -/
theorem insert_none (vb : Nat) (E : Edg) (w : World) (hv : w.heap[vb]? = some (.cells (ecs [E]).toArray 51 (0, 0))) (hE : IsE E) :
    Calls Try.prog 50 #[.slice none 0 0, .int .i64 0, .slice (some ⟨vb, 0, none⟩) 1 1] w fun e w' =>
      ∃ g c, e = .returned (.slice (some ⟨g, 0, none⟩) 1 c) ∧ RowAt w' g 0 1 c [E] ∧ w.heap.size ≤ g ∧ G w w' := by
  have hone2 := ecs_one [E] (fun F hF => by rw [List.mem_singleton.1 hF]; exact hE)
  obtain ⟨i0, hi, hz0, hz1, hz2⟩ := info_parts infoE
  have hr : Rdr w 5 (.slice (some ⟨vb, 0, none⟩) 1 1) 1 (ecs [E]) := ⟨rfl, _, _, rfl, fun _ => ⟨vb, 0, rfl, fun j u hj => by
    rw [Nat.zero_add]; simp only [World.cell?, hv]; simpa using hj⟩⟩
  go_enter Try.func50, Try.ntmps50
  go_wp2_with (at_builtin; refine wpList_appendR _ rfl _ _ 40 rfl w.heap.size 51 i0 (.agg #[.string ⟨#[]⟩, .string ⟨#[]⟩, .string ⟨#[]⟩, .int .i64 0, .slice none 0 0]) 5 80 Try.underlying40 hi hz0 hz1 hz2 rfl (by decide) (.slice none 0 0) 0 [] rfl (World.ownsRow_nil _ _ _ _) (.slice (some ⟨vb, 0, none⟩) 1 1) 1 (ecs [E]) rfl hr hone2 (by unfold maxLen; omega) (by omega) (Nat.le_refl _) ?_; intro mp mc w1 hown1 hgrow1 hat1)
  simp only [Nat.zero_add, List.nil_append] at hown1 hat1 ⊢
  have hg1 : G w w1 := (G.refl w).grown hgrow1 (fun k h => by cases h)
  go_wp2_with fail
  go_ret
  have HOW := hown1
  rcases hown1.2 with ⟨h, -⟩ | ⟨g', cap, cur, he, hb, hh, hc, hm, hs, ht⟩
  · cases h
  · cases he
    obtain h9 | h9 := hat1 g' rfl
    · cases h9
    exact ⟨g', mc, rfl, rowAt_of_owns HOW (fun F hF => by rw [List.mem_singleton.1 hF]; exact hE), h9, hg1⟩
end Go.Proofs.Ythhmmjpgefinmaa
