/- rows of edges that are copied; a sort of none -/
import Derived.Test.YtfdajignnnhnmaaSortX
import Derived.Lib.SmallJoins
namespace Go.Proofs.Ytfdajignnnhnmaa
set_option linter.unusedVariables false
set_option linter.unusedSimpArgs false
open Go.RowKit Go.Shelf
attribute [local go_sem] Oper.semAt_some

theorem infoE : (Try.prog.info? 27).map (fun i => (i.zero, i.size, i.bytes)) = some (some (.agg #[.string ⟨#[]⟩, .string ⟨#[]⟩, .string ⟨#[]⟩, .int .i64 0, .slice none 0 0]), 5, 80) := by kernel_rfl
theorem ecs_one : ∀ (l : List Edg), (∀ E ∈ l, IsE E) → ∀ u ∈ ecs l, u.oneCell' = true
  | [], _, u, h => by cases h
  | E :: l, hl, u, h => by
    simp only [ecs, List.mem_cons] at h
    rcases h with rfl | rfl | rfl | rfl | rfl | h
    · rfl
    · rfl
    · rfl
    · rfl
    · obtain ⟨p, n, c, hv⟩ := hl E (List.mem_cons_self ..)
      rw [hv]; rfl
    · exact ecs_one l (fun F hF => hl F (List.mem_cons_of_mem _ hF)) u h
theorem cloneP_any (l : List Prp) (v : Value) (w : World) (hv : Rdr w 4 v l.length (pcells l)) (hn : l.length ≤ 1000000) :
    Calls Try.prog 66 #[v] w fun e w' => ∃ u, e = .returned u ∧ w'.ownsRow w.heap.size 56 4 u l.length (pcells l) ∧ G w w' := by
  have HV := Lib.hid hv
  obtain ⟨-, p, c, rfl, hl2⟩ := hv
  obtain ⟨i0, hi, hz0, hz1, hz2⟩ := info_parts infoP
  have heq := Lib.run_eql_slice_nil (P := Try.prog) w 25 56 p l.length c 0 0 Try.underlying25
  have HO := Lib.hid (pcells_one l)
  cases p with
  | none =>
    have hl : l = [] := by
      cases l with
      | nil => rfl
      | cons x l =>
        obtain ⟨b, o, hp, -⟩ := hl2 (by simp)
        cases hp
    subst hl
    simp only [Option.isNone_none, List.length_nil] at heq
    clear hl2
    go_enter Try.func66, Try.ntmps66
    go_wp2_with fail
    go_ret
    exact ⟨.slice none 0 0, rfl, World.ownsRow_nil _ _ _ _, G.refl w⟩
  | some a =>
    simp only [Option.isNone_some] at heq
    clear hl2
    go_enter Try.func66, Try.ntmps66
    go_wp2_with (at_builtin; refine wpList_appendR _ rfl _ _ 25 rfl w.heap.size 56 i0 (.agg #[.string ⟨#[]⟩, .int .i64 0, .int .i64 0, .string ⟨#[]⟩]) 4 48 Try.underlying25 hi hz0 hz1 hz2 rfl (by decide) _ 0 [] rfl (World.ownsRow_made w #[] 0 (Nat.le_refl _) (Nat.zero_le _) rfl) (.slice (some a) l.length c) l.length (pcells l) rfl (Rdr.g HV.out ((G.refl w).alloc _)) HO.out (by unfold maxLen; omega) (by omega) (by simp) ?_; intro mp mc w1 hown1 hgrow1 hat1)
    simp only [Nat.zero_add, List.nil_append] at hown1 hat1 ⊢
    have hg1 : G w w1 := ((G.refl w).alloc _).grown hgrow1 (fun k h => by have := Option.some.inj h; simp at this; omega)
    go_wp2_with fail
    go_ret
    exact ⟨_, rfl, hown1, hg1⟩
theorem cloneE_any (l : List Edg) (v : Value) (w : World) (hv : Rdr w 5 v l.length (ecs l)) (hn : l.length ≤ 1000000) (hE : ∀ E ∈ l, IsE E) :
    Calls Try.prog 65 #[v] w fun e w' => ∃ u, e = .returned u ∧ w'.ownsRow w.heap.size 27 5 u l.length (ecs l) ∧ G w w' := by
  have HV := Lib.hid hv
  obtain ⟨-, p, c, rfl, hl2⟩ := hv
  obtain ⟨i0, hi, hz0, hz1, hz2⟩ := info_parts infoE
  have heq := Lib.run_eql_slice_nil (P := Try.prog) w 35 27 p l.length c 0 0 Try.underlying35
  have HO := Lib.hid (ecs_one l hE)
  clear hE
  cases p with
  | none =>
    have hl : l = [] := by
      cases l with
      | nil => rfl
      | cons x l =>
        obtain ⟨b, o, hp, -⟩ := hl2 (by simp)
        cases hp
    subst hl
    simp only [Option.isNone_none, List.length_nil] at heq
    clear hl2
    go_enter Try.func65, Try.ntmps65
    go_wp2_with fail
    go_ret
    exact ⟨.slice none 0 0, rfl, World.ownsRow_nil _ _ _ _, G.refl w⟩
  | some a =>
    simp only [Option.isNone_some] at heq
    clear hl2
    go_enter Try.func65, Try.ntmps65
    go_wp2_with (at_builtin; refine wpList_appendR _ rfl _ _ 35 rfl w.heap.size 27 i0 (.agg #[.string ⟨#[]⟩, .string ⟨#[]⟩, .string ⟨#[]⟩, .int .i64 0, .slice none 0 0]) 5 80 Try.underlying35 hi hz0 hz1 hz2 rfl (by decide) _ 0 [] rfl (World.ownsRow_made w #[] 0 (Nat.le_refl _) (Nat.zero_le _) rfl) (.slice (some a) l.length c) l.length (ecs l) rfl (Rdr.g HV.out ((G.refl w).alloc _)) HO.out (by unfold maxLen; omega) (by omega) (by simp) ?_; intro mp mc w1 hown1 hgrow1 hat1)
    simp only [Nat.zero_add, List.nil_append] at hown1 hat1 ⊢
    have hg1 : G w w1 := ((G.refl w).alloc _).grown hgrow1 (fun k h => by have := Option.some.inj h; simp at this; omega)
    go_wp2_with fail
    go_ret
    exact ⟨_, rfl, hown1, hg1⟩
theorem insertion_nil (w : World) : Calls Try.prog 87 #[.slice none 0 0, .int .i64 0, .int .i64 0, CMPF] w fun e w' => (∃ u, e = .returned u) ∧ w = w' := by
  go_enter Try.func87, Try.ntmps87
  go_wp2_with fail
  go_loop [8] (fun i => i = .int .i64 1) (fun _ => 0)
  case atStart => rfl
  case round =>
    obtain rfl := hrel
    go_wp2_with fail
    go_returns
    exact ⟨⟨_, rfl⟩, rfl⟩
theorem stable_nil (w : World) : Calls Try.prog 83 #[.slice none 0 0, .int .i64 0, CMPF] w fun e w' => (∃ u, e = .returned u) ∧ w = w' := by
  go_enter Try.func83, Try.ntmps83
  go_wp2_with fail
  go_loop [7, 8] (fun a b => a = .int .i64 0 ∧ b = .int .i64 20) (fun _ _ => 0)
  case atStart => exact ⟨rfl, rfl⟩
  case round =>
    obtain ⟨rfl, rfl⟩ := hrel
    go_wp2_with fail
    refine (insertion_nil w).mono ?_
    rintro e w1 ⟨⟨u, rfl⟩, rfl⟩
    go_wp2_with fail
    go_loop [6] (fun s => s = .int .i64 20) (fun _ => 0)
    case atStart => rfl
    case round =>
      obtain rfl := hrel
      go_wp2_with fail
      go_returns
      exact ⟨⟨_, rfl⟩, rfl⟩
theorem sortStable_nil (w : World) : Calls Try.prog 67 #[.slice none 0 0, CMPF] w fun e w' => (∃ u, e = .returned u) ∧ w = w' := by
  go_enter Try.func67, Try.ntmps67
  go_wp2_with fail
  refine (stable_nil w).mono ?_
  rintro e w1 ⟨⟨u, rfl⟩, rfl⟩
  go_wp2_with fail
  go_returns
  exact ⟨⟨_, rfl⟩, rfl⟩
end Go.Proofs.Ytfdajignnnhnmaa
