/- slices.Insert of one edge: into a new row -/
import Derived.Test.YthhmmjpgefinmaaBufJ
import Derived.Test.YthhmmjpgefinmaaSortRf
set_option maxRecDepth 20000
namespace Go.Proofs.Ythhmmjpgefinmaa
set_option linter.unusedVariables false
set_option linter.unusedSimpArgs false
open Go.RowKit Go.Shelf
attribute [local go_sem] Oper.semAt_some

theorem zc_len (z : Value) (k : Nat) (h : z.cells.size = 5) : (Builtin.zeroCells z.cells k).size = k * 5 := by
  simp [Builtin.zeroCells, h]
set_option maxHeartbeats 4000000 in
/-- no room -/
theorem insert_grow (g off n c i vb : Nat) (L : List Edg) (E : Edg) (w : World) (h : RowAt w g off n c L) (hi : i < n) (hroom : c < n + 1) (hv : w.heap[vb]? = some (.cells (ecs [E]).toArray 51 (0, 0))) (hE : IsE E) (hn : n ≤ 1000000) :
    Calls Try.prog 50 #[.slice (some ⟨g, off, none⟩) n c, .int .i64 i, .slice (some ⟨vb, 0, none⟩) 1 1] w fun e w' =>
      ∃ c', e = .returned (.slice (some ⟨w.heap.size, 0, none⟩) (n + 1) c') ∧ RowAt w' w.heap.size 0 (n + 1) c' (L.take i ++ E :: L.drop i) ∧ G w w' := by
  have hL := h.len
  obtain rfl : n = c := by have := h.cap.1; omega
  obtain ⟨i0, hi0, hz0, hzs, hzb⟩ := info_parts infoE
  have hTl : (ecs (L.take i)).length = i * 5 := by rw [ecs_len, List.length_take]; congr 1; omega
  have hDl : (ecs (L.drop i)).length = (n - i) * 5 := by rw [ecs_len, List.length_drop, hL]
  have hEl : (ecs [E]).length = 5 := rfl
  have hone := ecs_one L h.isE
  have hone2 := ecs_one [E] (fun F hF => by rw [List.mem_singleton.1 hF]; exact hE)
  have hgl := h.lt
  have hvl : vb < w.heap.size := heap_lt hv
  have hkk : (n : Int) + 1 - (i : Int) = ((n + 1 - i : Nat) : Int) := by omega
  have hik : i + (n + 1 - i) = n + 1 := by omega
  have hold : (Builtin.firstCells i0.size i (.slice (some ⟨g, off, none⟩) i n)).run Try.prog w.drew = .ok (ecs (L.take i)).toArray w.drew := by
    rw [hzs]
    exact run_firstCells_some w.drew 5 i ⟨g, off, none⟩ i n (ecs (L.take i)) hTl (fun j v hj => by
      rw [Addr.add_lit]
      rw [← ecs_take, List.getElem?_take] at hj
      split at hj
      · exact h.cell hj
      · cases hj)
  have hrz : ∀ ty, (Builtin.append_ #[40, 3] ty #[.slice (some ⟨g, off, none⟩) i n, .int .i64 ((n : Int) + 1 - (i : Int))]).run Try.prog w =
      .ok (.slice (some ⟨w.heap.size, 0, none⟩) (n + 1) (grownCap w (n + 1) n 51)) (w.drew.alloc (.cells ((ecs (L.take i)).toArray ++ Builtin.zeroCells (Value.agg #[.string ⟨#[]⟩, .string ⟨#[]⟩, .string ⟨#[]⟩, .int .i64 0, .slice none 0 0]).cells (n + 1 - i) ++ Builtin.zeroCells (Value.agg #[.string ⟨#[]⟩, .string ⟨#[]⟩, .string ⟨#[]⟩, .int .i64 0, .slice none 0 0]).cells (grownCap w (n + 1) n 51 - (n + 1))) 51)) := fun ty => by
    have h := Lib.run_append_grow_zeros w 40 3 ty 51 i0 _ .i64 .i64 Try.underlying40 Try.underlying3 hi0 hz0 (some ⟨g, off, none⟩) i n (ecs (L.take i)) hold (n + 1 - i) (by omega) (by omega) (by omega) (by omega) (by rw [hzb]; omega) (by rw [hzb, hik]; exact growslice_fits hroom (by omega))
    rw [hik] at h
    rw [hkk]
    exact h
  have hGn : n + 1 ≤ grownCap w (n + 1) n 51 := grownCap_ge w _ _ _
  have hG63 : grownCap w (n + 1) n 51 ≤ 9223372036854775807 := by
    have := grownCap_le_maxLen w (n + 1) n 51 (by unfold maxLen; omega)
    unfold maxLen at this
    omega
  generalize grownCap w (n + 1) n 51 = GC at hrz hGn hG63
  have hzc : ∀ k, (Builtin.zeroCells (Value.agg #[.string ⟨#[]⟩, .string ⟨#[]⟩, .string ⟨#[]⟩, .int .i64 0, .slice none 0 0]).cells k).size = k * 5 := fun k => zc_len _ k rfl
  obtain ⟨ZZ, hZZ⟩ : ∃ ZZ : List Value, ZZ = (Builtin.zeroCells (Value.agg #[.string ⟨#[]⟩, .string ⟨#[]⟩, .string ⟨#[]⟩, .int .i64 0, .slice none 0 0]).cells (n + 1 - i) ++ Builtin.zeroCells (Value.agg #[.string ⟨#[]⟩, .string ⟨#[]⟩, .string ⟨#[]⟩, .int .i64 0, .slice none 0 0]).cells (GC - (n + 1))).toList := ⟨_, rfl⟩
  have hZl : ZZ.length = (GC - i) * 5 := by
    rw [hZZ, Array.length_toList, Array.size_append, hzc, hzc]; omega
  have hrow : (ecs (L.take i)).toArray ++ Builtin.zeroCells (Value.agg #[.string ⟨#[]⟩, .string ⟨#[]⟩, .string ⟨#[]⟩, .int .i64 0, .slice none 0 0]).cells (n + 1 - i) ++ Builtin.zeroCells (Value.agg #[.string ⟨#[]⟩, .string ⟨#[]⟩, .string ⟨#[]⟩, .int .i64 0, .slice none 0 0]).cells (GC - (n + 1)) = (ecs (L.take i) ++ ZZ).toArray := by
    rw [hZZ]; simp
  rw [hrow] at hrz
  clear hrow hZZ hzc hold hi0 hz0 hzs hzb i0
  obtain ⟨W1, hW1⟩ : ∃ W1, W1 = w.drew.alloc (.cells (ecs (L.take i) ++ ZZ).toArray 51) := ⟨_, rfl⟩
  rw [← hW1] at hrz
  have g1 : G w W1 := by rw [hW1]; exact ((G.refl w).drew).alloc _
  have hb1 : W1.heap[w.heap.size]? = some (.cells (ecs (L.take i) ++ ZZ).toArray 51 (0, 0)) := by rw [hW1]; exact alloc_new w.drew _
  obtain ⟨W2, hW2⟩ : ∃ W2, W2 = W1.setRow w.heap.size ((ecs (L.take i) ++ ZZ).take (ecs (L.take i)).length ++ ecs [E] ++ (ecs (L.take i) ++ ZZ).drop ((ecs (L.take i)).length + (ecs [E]).length)).toArray := ⟨_, rfl⟩
  have hb2 : W2.heap[w.heap.size]? = some (.cells ((ecs (L.take i) ++ ZZ).take (ecs (L.take i)).length ++ ecs [E] ++ (ecs (L.take i) ++ ZZ).drop ((ecs (L.take i)).length + (ecs [E]).length)).toArray 51 (0, 0)) := by rw [hW2]; exact setRow_heap W1 _ _ _ _ _ hb1
  have g2 : G w W2 := by rw [hW2]; exact ((g1.fr (fun _ => False)).trans (setRow_fr _ _ _) (T := fun q => q = w.heap.size) (fun i hi h => by omega)).g (fun _ h => h.elim)
  have hv1 := (g1.block hvl).trans hv
  have hcpA : ∀ ty dc, (Builtin.copy_ #[40, 40] ty #[.slice (some ⟨w.heap.size, i * 5, none⟩) (n + 1 - i) dc, .slice (some ⟨vb, 0, none⟩) 1 1]).run Try.prog W1 = .ok (goInt ((1 : Nat) : Int)) W2 := fun ty dc => by
    have := run_copy_row5 W1 40 40 ty 51 w.heap.size (i * 5) (n + 1 - i) dc ⟨vb, 0, none⟩ 1 1 _ 51 (ecs [E]) 1 Try.underlying40 sz5 hb1 (by simp only [Nat.min_def]; split <;> omega) hEl
      (fun j v hj => by
        rw [Addr.add_lit, Nat.zero_add]
        simp only [World.cell?, hv1]
        simpa using hj) (by rw [hEl]; simp only [List.size_toArray, List.length_append, hTl, hZl]; omega) hone2
    rw [this, hW2, hTl]
  obtain ⟨W3, hW3⟩ : ∃ W3, W3 = W2.drew.setRow w.heap.size (ecs (L.take i) ++ (ecs [E] ++ (ecs (L.drop i) ++ ZZ.drop (5 + (ecs (L.drop i)).length)))).toArray := ⟨_, rfl⟩
  have hcpB : ∀ ty dc sc, (Builtin.copy_ #[40, 40] ty #[.slice (some ⟨w.heap.size, (i + 1) * 5, none⟩) (n + 1 - (i + 1)) dc, .slice (some ⟨g, off + i * 5, none⟩) (n - i) sc]).run Try.prog W2.drew = .ok (goInt ((n - i : Nat) : Int)) W3 := fun ty dc sc => by
    have := run_copy_row5 W2.drew 40 40 ty 51 w.heap.size ((i + 1) * 5) (n + 1 - (i + 1)) dc ⟨g, off + i * 5, none⟩ (n - i) sc _ 51 (ecs (L.drop i)) (n - i) Try.underlying40 sz5 hb2 (by simp only [Nat.min_def]; split <;> omega) hDl
      (fun j v hj => by
        rw [Addr.add_lit, Nat.add_assoc]
        refine (g2.cell (h.cell (?_ : (ecs L)[i * 5 + j]? = some v)))
        rw [← ecs_drop, List.getElem?_drop] at hj
        exact hj) (by rw [hDl]; simp only [List.size_toArray, List.length_append, List.length_take, List.length_drop, hTl, hZl, hEl]; omega) (fun u hu => hone u (by rw [ecs_split L i]; exact List.mem_append_right _ hu))
    rw [this, hW3]
    rw [show (i + 1) * 5 = (ecs (L.take i)).length + 5 by rw [hTl]; omega, splice_new (ecs (L.take i)) (ecs (L.drop i)) ZZ (ecs [E]) hEl (by rw [hDl, hZl]; omega)]
  have hF : Hid (RowAt W3 w.heap.size 0 (n + 1) GC (L.take i ++ E :: L.drop i) ∧ G w W3) := by
    refine Lib.hid ⟨⟨⟨[], ZZ.drop (5 + (ecs (L.drop i)).length), ?_, rfl, by rw [List.length_drop, hZl, hDl]; omega⟩, by rw [ins_len (by omega), hL], ⟨hGn, hG63⟩, ins_isE h.isE hE⟩, ?_⟩
    · rw [hW3, setRow_heap W2.drew _ _ _ _ _ hb2, show L.take i ++ E :: L.drop i = L.take i ++ ([E] ++ L.drop i) from rfl, ecs_app, ecs_app, show ecs (L.take i) ++ (ecs [E] ++ (ecs (L.drop i) ++ ZZ.drop (5 + (ecs (L.drop i)).length))) = [] ++ (ecs (L.take i) ++ (ecs [E] ++ ecs (L.drop i)) ++ ZZ.drop (5 + (ecs (L.drop i)).length)) by simp only [List.append_assoc, List.nil_append]]
    · rw [hW3]; exact (((g2.drew).fr (fun _ => False)).trans (setRow_fr _ _ _) (T := fun q => q = w.heap.size) (fun i hi h => by omega)).g (fun _ h => h.elim)
  have hz1' : ¬ ((1 : Int) = 0) := by omega
  have hz2 : ¬ ((i : Int) = (n : Int)) := by omega
  have hz3 : (n : Int) < (n : Int) + 1 := by omega
  have hw1 : IntKind.i64.wrap ((i : Int) + 1) = (i : Int) + 1 := by rw [IntKind.wrap_i64]; omega
  have hw2 : IntKind.i64.wrap ((n : Int) + 1) = (n : Int) + 1 := by rw [IntKind.wrap_i64]; omega
  have mixed : Try.prog.follows .mixedOrders = true := by kernel_rfl
  have ha1 : (0 : Int) ≤ (i : Int) + 1 := by omega
  have ha2 : i ≤ n := by omega
  have ha3 : ((i : Int) + 1).toNat = i + 1 := by omega
  have ha4 : ¬ (GC = i + 1) := by omega
  have ha5 : (i : Int) ≤ (n : Int) + 1 := by omega
  have ha6 : ¬ (GC = i) := by omega
  have ha7 : ¬ (n = i) := by omega
  have ha8 : (i : Int) ≤ (n : Int) := by omega
  clear hW1 hW2 hW3 hb1 hb2 hv1 hv g1 g2 h hone hone2 hkk hik
  go_enter Try.func50, Try.ntmps50
  go_wp2_with (first
    | (at_builtin; refine Lib.wpList_append_run _ rfl _ _ _ _ rfl _ _ rfl rfl _ _ (hrz _) ?_)
    | (at_builtin; refine wpList_copy_runI _ rfl _ _ 40 40 rfl _ _ rfl rfl (hcpA _ _) ?_))
  go_region_law_o (refine step_copy_runI rfl _ _ 40 40 rfl (.slice (some ⟨w.heap.size, (i + 1) * 5, none⟩) (n + 1 - (i + 1)) (GC - (i + 1))) (.slice (some ⟨g, off + i * 5, none⟩) (n - i) (n - i)) (by simp [Act.eval, Act.put]) (by simp [Act.eval, Act.put]) (hcpB 3 _ _) ?_)
  go_wp2
  go_ret
  exact ⟨_, rfl, hF.out⟩
set_option maxHeartbeats 4000000 in
/-- at the end, no room -/
theorem insert_end_grow (g off n vb : Nat) (L : List Edg) (E : Edg) (w : World) (h : RowAt w g off n n L) (hv : w.heap[vb]? = some (.cells (ecs [E]).toArray 51 (0, 0))) (hE : IsE E) (hn : n ≤ 1000000) :
    Calls Try.prog 50 #[.slice (some ⟨g, off, none⟩) n n, .int .i64 n, .slice (some ⟨vb, 0, none⟩) 1 1] w fun e w' =>
      ∃ c', e = .returned (.slice (some ⟨w.heap.size, 0, none⟩) (n + 1) c') ∧ RowAt w' w.heap.size 0 (n + 1) c' (L ++ [E]) ∧ G w w' := by
  have hL := h.len
  obtain ⟨i0, hi0, hz0, hzs, hzb⟩ := info_parts infoE
  have hLl : (ecs L).length = n * 5 := by rw [ecs_len, hL]
  have hEl : (ecs [E]).length = 5 := rfl
  have hone2 := ecs_one [E] (fun F hF => by rw [List.mem_singleton.1 hF]; exact hE)
  have hold : (Builtin.firstCells i0.size n (.slice (some ⟨g, off, none⟩) n n)).run Try.prog w.drew = .ok (ecs L).toArray w.drew := by
    rw [hzs]
    exact run_firstCells_some w.drew 5 n ⟨g, off, none⟩ n n (ecs L) hLl (fun j v hj => by
      rw [Addr.add_lit]
      exact h.cell hj)
  have hsrc : Src Try.prog i0.size 40 (.slice (some ⟨vb, 0, none⟩) 1 1) 1 (ecs [E]) w := by
    rw [hzs]
    exact Src.ofSlice w Try.underlying40 ⟨vb, 0, none⟩ 1 1 (ecs [E]) hEl (fun j u hj => by
      rw [Addr.add_lit, Nat.zero_add]
      simp only [World.cell?, hv]
      simpa using hj) hone2
  have hap : ∀ ty, (Builtin.append_ #[40, 40] ty #[.slice (some ⟨g, off, none⟩) n n, .slice (some ⟨vb, 0, none⟩) 1 1]).run Try.prog w = .ok (.slice (some ⟨w.heap.size, 0, none⟩) (n + 1) (grownCap w (n + 1) n 51)) (w.drew.alloc (.cells ((ecs L ++ ecs [E]).toArray ++ Builtin.zeroCells (Value.agg #[.string ⟨#[]⟩, .string ⟨#[]⟩, .string ⟨#[]⟩, .int .i64 0, .slice none 0 0]).cells (grownCap w (n + 1) n 51 - (n + 1))) 51)) := fun ty =>
    run_append_grow_src w 40 40 ty 51 i0 _ Try.underlying40 hi0 hz0 (some ⟨g, off, none⟩) n n (ecs L) hold _ 1 (ecs [E]) hsrc (by omega) (by omega) (by rw [hzb]; exact growslice_fits (by omega) (by omega))
  have hGn : n + 1 ≤ grownCap w (n + 1) n 51 := grownCap_ge w _ _ _
  have hG63 : grownCap w (n + 1) n 51 ≤ 9223372036854775807 := by
    have := grownCap_le_maxLen w (n + 1) n 51 (by unfold maxLen; omega)
    unfold maxLen at this
    omega
  generalize grownCap w (n + 1) n 51 = GC at hap hGn hG63
  obtain ⟨ZZ, hZZ⟩ : ∃ ZZ : List Value, ZZ = (Builtin.zeroCells (Value.agg #[.string ⟨#[]⟩, .string ⟨#[]⟩, .string ⟨#[]⟩, .int .i64 0, .slice none 0 0]).cells (GC - (n + 1))).toList := ⟨_, rfl⟩
  have hZl : ZZ.length = (GC - (n + 1)) * 5 := by rw [hZZ, Array.length_toList, zc_len _ _ rfl]
  have hrow : (ecs L ++ ecs [E]).toArray ++ Builtin.zeroCells (Value.agg #[.string ⟨#[]⟩, .string ⟨#[]⟩, .string ⟨#[]⟩, .int .i64 0, .slice none 0 0]).cells (GC - (n + 1)) = ([] ++ (ecs (L ++ [E]) ++ ZZ)).toArray := by
    rw [hZZ, ecs_app]; simp
  rw [hrow] at hap
  clear hrow hZZ hold hi0 hz0 hzs hzb
  obtain ⟨W1, hW1⟩ : ∃ W1, W1 = w.drew.alloc (.cells ([] ++ (ecs (L ++ [E]) ++ ZZ)).toArray 51) := ⟨_, rfl⟩
  rw [← hW1] at hap
  have hF : Hid (RowAt W1 w.heap.size 0 (n + 1) GC (L ++ [E]) ∧ G w W1) := by
    refine Lib.hid ⟨⟨⟨[], ZZ, by rw [hW1]; exact alloc_new w.drew _, rfl, hZl⟩, by simp [hL], ⟨hGn, hG63⟩, fun x hx => ?_⟩, ?_⟩
    · rcases List.mem_append.1 hx with hx | hx
      · exact h.isE x hx
      · rw [List.mem_singleton.1 hx]; exact hE
    · rw [hW1]; exact ((G.refl w).drew).alloc _
  have hz1' : ¬ ((1 : Int) = 0) := by omega
  clear hW1 h hone2 hv hsrc
  go_enter Try.func50, Try.ntmps50
  go_wp2_with (at_builtin; refine Lib.wpList_append_run _ rfl _ _ _ _ rfl _ _ rfl rfl _ _ (hap _) ?_)
  go_ret
  exact ⟨_, rfl, hF.out⟩
theorem insert_any (v : Value) (L : List Edg) (E : Edg) (i vb : Nat) (w : World) (h : RowV w v L) (hi : i ≤ L.length) (hv : w.heap[vb]? = some (.cells (ecs [E]).toArray 51 (0, 0))) (hE : IsE E) (hne : v.ownBlock ≠ some vb) (hn : L.length ≤ 1000000) :
    Calls Try.prog 50 #[v, .int .i64 i, .slice (some ⟨vb, 0, none⟩) 1 1] w (Inserted w v L i E) := by
  rcases h with ⟨rfl, rfl⟩ | ⟨g, off, c, rfl, h⟩
  · obtain rfl : i = 0 := by simpa using hi
    refine (insert_none vb E w hv hE).mono ?_
    rintro e w' ⟨g, c, rfl, hr, hg, hG⟩
    exact ⟨g, 0, c, rfl, hr, hG.fr _, .inr hg⟩
  · have hneg : vb ≠ g := fun e => hne (by rw [e]; rfl)
    by_cases hlt : i < L.length
    · by_cases hroom : L.length + 1 ≤ c
      · refine (insert_shift g off _ c i vb L E w h hlt hroom hv hE hneg hn).mono ?_
        rintro e w' ⟨rfl, hr, hf⟩
        exact ⟨g, off, c, rfl, hr, hf, .inl rfl⟩
      · refine (insert_grow g off _ c i vb L E w h hlt (by omega) hv hE hn).mono ?_
        rintro e w' ⟨c', rfl, hr, hG⟩
        exact ⟨_, 0, c', rfl, hr, hG.fr _, .inr (Nat.le_refl _)⟩
    · obtain rfl : i = L.length := by omega
      have hl : L.take L.length ++ E :: L.drop L.length = L ++ [E] := by simp
      unfold Inserted
      rw [hl]
      by_cases hroom : L.length + 1 ≤ c
      · refine (insert_end_room g off _ c vb L E w h hroom hv hE hn).mono ?_
        rintro e w' ⟨rfl, hr, hf⟩
        exact ⟨g, off, c, rfl, hr, hf, .inl rfl⟩
      · obtain rfl : L.length = c := by have := h.cap.1; omega
        refine (insert_end_grow g off _ vb L E w h hv hE hn).mono ?_
        rintro e w' ⟨c', rfl, hr, hG⟩
        exact ⟨_, 0, c', rfl, hr, hG.fr _, .inr (Nat.le_refl _)⟩
end Go.Proofs.Ythhmmjpgefinmaa
