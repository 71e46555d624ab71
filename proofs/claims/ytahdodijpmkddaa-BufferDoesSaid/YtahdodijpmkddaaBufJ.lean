/- slices.Insert of one edge: at the end, and into a new row -/
import Derived.Test.YtahdodijpmkddaaBufI
import Derived.Test.YtahdodijpmkddaaSortRf
set_option maxRecDepth 20000
namespace Go.Proofs.Ytahdodijpmkddaa
set_option linter.unusedVariables false
set_option linter.unusedSimpArgs false
open Go.RowKit Go.Shelf
attribute [local go_sem] Oper.semAt_some

set_option maxHeartbeats 4000000 in
/-- at the end, there is room -/
theorem insert_end_room (g off n c vb : Nat) (L : List Edg) (E : Edg) (w : World) (h : RowAt w g off n c L) (hroom : n + 1 ≤ c) (hv : w.heap[vb]? = some (.cells (ecs [E]).toArray 33 (0, 0))) (hE : IsE E) (hn : n ≤ 1000000) :
    Calls Try.prog 33 #[.slice (some ⟨g, off, none⟩) n c, .int .i64 n, .slice (some ⟨vb, 0, none⟩) 1 1] w fun e w' =>
      e = .returned (.slice (some ⟨g, off, none⟩) (n + 1) c) ∧ RowAt w' g off (n + 1) c (L ++ [E]) ∧ Fr (fun q => q = g) w w' := by
  obtain ⟨A, Z, hb, hA, hZ⟩ := h.blk
  have hL := h.len
  have hc63 := h.cap.2
  have hz5 : 5 ≤ Z.length := by rw [hZ]; omega
  have hone2 := ecs_one [E] (fun F hF => by rw [List.mem_singleton.1 hF]; exact hE)
  have hEl : (ecs [E]).length = 5 := rfl
  have hXl : (A ++ ecs L).length = off + n * 5 := by rw [List.length_append, hA, ecs_len, hL]
  have hb' : w.heap[g]? = some (.cells ((A ++ ecs L) ++ Z).toArray 33 (0, 0)) := by rw [hb]; simp
  obtain ⟨i0, hi, hz0, hz1, hz2⟩ := info_parts infoE
  obtain ⟨W1, hW1⟩ : ∃ W1, W1 = w.setRow g ((A ++ ecs L) ++ (ecs [E] ++ Z.drop 5)).toArray := ⟨_, rfl⟩
  have hsrc : ∀ j v, (ecs [E])[j]? = some v → w.cell? ((⟨vb, 0, none⟩ : Addr).add j) = some v := fun j v hj => by
    rw [Addr.add_lit, Nat.zero_add]
    simp only [World.cell?, hv]
    simpa using hj
  have hl := run_loadCells_list (P := Try.prog) w ⟨vb, 0, none⟩ (ecs [E]) hsrc
  have hst := run_storeCells_at Try.prog g (off + n * 5) 33 (ecs [E]) 0 _ w hb' (by simp only [List.size_toArray, List.length_append] at *; rw [hXl, hEl]; omega) hone2
  have hap : ∀ ty, (Builtin.append_ #[28, 28] ty #[.slice (some ⟨g, off, none⟩) n c, .slice (some ⟨vb, 0, none⟩) 1 1]).run Try.prog w = .ok (.slice (some ⟨g, off, none⟩) (n + 1) c) W1 := fun ty => by
    have hs2 : (storeCells ⟨g, off + n * 5, none⟩ (ecs [E]) 0).run Try.prog w = .ok () W1 := by
      rw [hst, hW1]
      have e1 : ((A ++ ecs L) ++ Z).take (A ++ ecs L).length = A ++ ecs L := by rw [List.take_append, List.take_of_length_le (by omega)]; simp
      have e2 : ((A ++ ecs L) ++ Z).drop ((A ++ ecs L).length + 5) = Z.drop 5 := by
        rw [List.drop_append, List.drop_of_length_le (by omega), List.nil_append, show (A ++ ecs L).length + 5 - (A ++ ecs L).length = 5 by omega]
      simp only [Nat.add_zero]
      rw [hEl, ← hXl, e1, e2, List.append_assoc]
    rw [hEl] at hl
    simp [Builtin.append_, run_underlying Try.underlying28, sizeOf, typeInfo, hi, hz1, Builtin.lenOf, Builtin.firstCells, hroom, Addr.add_lit, hl, hs2]
  have hF : Hid (RowAt W1 g off (n + 1) c (L ++ [E]) ∧ Fr (fun q => q = g) w W1) := by
    refine Lib.hid ⟨⟨⟨A, Z.drop 5, ?_, hA, by rw [List.length_drop, hZ]; omega⟩, by simp [hL], ⟨hroom, hc63⟩, fun x hx => ?_⟩, ?_⟩
    · rw [hW1, setRow_heap w g _ _ _ _ hb', ecs_app, show A ++ ecs L ++ (ecs [E] ++ Z.drop 5) = A ++ (ecs L ++ ecs [E] ++ Z.drop 5) by simp only [List.append_assoc]]
    · rcases List.mem_append.1 hx with hx | hx
      · exact h.isE x hx
      · rw [List.mem_singleton.1 hx]; exact hE
    · rw [hW1]; exact setRow_fr _ _ _
  have hz1' : ¬ ((1 : Int) = 0) := by omega
  clear hW1 hb hb' hl hst hsrc h hA hZ hz5 hv hi hz0 hz1 hz2 hone2
  go_enter Try.func33, Try.ntmps33
  go_wp2_with (at_builtin; refine Lib.wpList_append_run _ rfl _ _ _ _ rfl _ _ rfl rfl _ _ (hap _) ?_)
  go_ret
  exact ⟨rfl, hF.out⟩
set_option maxHeartbeats 4000000 in
/-- at the end of none -/
theorem insert_none (vb : Nat) (E : Edg) (w : World) (hv : w.heap[vb]? = some (.cells (ecs [E]).toArray 33 (0, 0))) (hE : IsE E) :
    Calls Try.prog 33 #[.slice none 0 0, .int .i64 0, .slice (some ⟨vb, 0, none⟩) 1 1] w fun e w' =>
      ∃ g c, e = .returned (.slice (some ⟨g, 0, none⟩) 1 c) ∧ RowAt w' g 0 1 c [E] ∧ w.heap.size ≤ g ∧ G w w' := by
  have hone2 := ecs_one [E] (fun F hF => by rw [List.mem_singleton.1 hF]; exact hE)
  obtain ⟨i0, hi, hz0, hz1, hz2⟩ := info_parts infoE
  have hr : Rdr w 5 (.slice (some ⟨vb, 0, none⟩) 1 1) 1 (ecs [E]) := ⟨rfl, _, _, rfl, fun _ => ⟨vb, 0, rfl, fun j u hj => by
    rw [Nat.zero_add]; simp only [World.cell?, hv]; simpa using hj⟩⟩
  go_enter Try.func33, Try.ntmps33
  go_wp2_with (at_builtin; refine wpList_appendR _ rfl _ _ 28 rfl w.heap.size 33 i0 (.agg #[.string ⟨#[]⟩, .string ⟨#[]⟩, .string ⟨#[]⟩, .int .i64 0, .slice none 0 0]) 5 80 Try.underlying28 hi hz0 hz1 hz2 rfl (by decide) (.slice none 0 0) 0 [] rfl (World.ownsRow_nil _ _ _ _) (.slice (some ⟨vb, 0, none⟩) 1 1) 1 (ecs [E]) rfl hr hone2 (by unfold maxLen; omega) (by omega) (Nat.le_refl _) ?_; intro mp mc w1 hown1 hgrow1 hat1)
  simp only [Nat.zero_add, List.nil_append] at hown1 hat1 ⊢
  have hg1 : G w w1 := (G.refl w).grown hgrow1 (fun k h => by cases h)
  go_wp2_with fail
  go_ret
  have HOW := hown1
  rcases hown1.2 with ⟨h, -⟩ | ⟨g', cap, cur, he, hb, hh, hc, hm, hs, ht⟩
  · cases h
  · cases he
    obtain h9 | h9 := hat1 g' rfl
    · cases h9
    exact ⟨g', mc, rfl, rowAt_of_owns HOW (fun F hF => by rw [List.mem_singleton.1 hF]; exact hE), h9, hg1⟩
end Go.Proofs.Ytahdodijpmkddaa
