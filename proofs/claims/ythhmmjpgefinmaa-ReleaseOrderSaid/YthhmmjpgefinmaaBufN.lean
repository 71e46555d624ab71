/- the buffer: New, First, Len -/
import Derived.Test.YthhmmjpgefinmaaBufT
set_option maxRecDepth 10000
namespace Go.Proofs.Ythhmmjpgefinmaa
set_option linter.unusedVariables false
set_option linter.unusedSimpArgs false
open Go.RowKit Go.Shelf
attribute [local go_sem] Oper.semAt_some

abbrev ZE : Value := .agg #[.string ⟨#[]⟩, .string ⟨#[]⟩, .string ⟨#[]⟩, .int .i64 0, .slice none 0 0]
theorem bnew_any (w : World) : Calls Try.prog 32 #[] w fun e w' => ∃ B S p, e = .returned (.pointer (some ⟨B, 0, none⟩)) ∧ BufIn S (fun _ => False) w' B [] p ∧ (∀ k, S k → w.heap.size ≤ k) ∧ G w w' := by
  have HN := Lib.hid (new_any [] (.slice none 0 0) w (Rdr.nil _ _ _ _) (by simp))
  go_enter Try.func32, Try.ntmps32
  go_wp2_with fail
  refine HN.out.mono ?_
  rintro e w1 ⟨rfl, ⟨v, SH, hat, hSH⟩, hg1⟩
  have hz := hg1.size
  have hHl := hat.lt _ hat.inB
  have HB : Hid (∃ S p, BufIn S (fun _ => False) ((w1.alloc (.map #[] 0)).alloc (.cells #[.pointer (some ⟨w.heap.size, 0, none⟩), .map (some w1.heap.size)] 81)) (w1.heap.size + 1) [] p ∧ (∀ k, S k → w.heap.size ≤ k)) := by
    have g1 : G w1 (w1.alloc (.map #[] 0)) := (G.refl _).alloc _
    have g2 : G w1 ((w1.alloc (.map #[] 0)).alloc (.cells #[.pointer (some ⟨w.heap.size, 0, none⟩), .map (some w1.heap.size)] 81)) := g1.alloc _
    have hbx := alloc_new (w1.alloc (.map #[] 0)) (.cells #[.pointer (some ⟨w.heap.size, 0, none⟩), .map (some w1.heap.size)] 81)
    rw [World.size_alloc] at hbx
    refine Lib.hid ⟨fun k => SH k ∨ k = w1.heap.size ∨ k = w1.heap.size + 1, ⟨w.heap.size, w1.heap.size, v, [], [], SH, fun _ => NOR, [], fun _ => []⟩, ⟨hbx, hat.g g2, ⟨HL.nil, List.nodup_nil, fun x hx => (by cases hx), fun t => (by simp)⟩, (MapS.made w1).g ((G.refl _).alloc _), fun t => .inl ⟨rfl, rfl⟩, fun t => rfl, fun t => (by simp), List.Pairwise.nil, fun t E hE => (by cases hE), fun t u g hg => (by cases hg), .inr (.inr rfl), .inr (.inl rfl), fun k hk => .inl hk, fun t g hg => (by cases hg), fun hc => ?_, fun hc => ?_, fun t g hg => (by cases hg), fun o ho => (by cases ho), fun k _ h => h, fun k hk => ?_⟩, fun k hk => ?_⟩
    · have h1 : w1.heap.size + 1 < w1.heap.size := hat.lt _ hc
      omega
    · have h1 : w1.heap.size < w1.heap.size := hat.lt _ hc
      omega
    · simp only [World.size_alloc]
      rcases hk with (e | e | e) | e
      · have := hat.lt k e; omega
      · omega
      · omega
      · exact e.elim
    · rcases hk with e | e | e
      · exact hSH k e
      · omega
      · omega
  have hgE : G w ((w1.alloc (.map #[] 0)).alloc (.cells #[.pointer (some ⟨w.heap.size, 0, none⟩), .map (some w1.heap.size)] 81)) := (hg1.alloc _).alloc _
  clear hat hSH HN hg1
  have hmk : (Instr.makeMap 79 none).run Try.prog w1 = .ok (.map (some w1.heap.size)) (w1.alloc (.map #[] 0)) := by
    simp [Instr.makeMap, run_underlying Try.underlying79]
  go_wp2_with fail
  obtain ⟨S, p, hb, hS⟩ := HB.out
  refine bodyPost_ret (v := .pointer (some ⟨w1.heap.size + 1, 0, none⟩)) ?_ rfl ⟨_, S, p, rfl, hb, hS, hgE⟩
  simp [results, Try.results32, go_sem]
/-- what First shows -/
def FirstOut (s : List Out) (w : World) (e : Ending) (w' : World) : Prop :=
  (s = [] ∧ e = .returned (.tuple #[ZE, .bool false]) ∧ G w w') ∨ ∃ o s2 E, s = o :: s2 ∧ e = .returned (.tuple #[ev E, .bool true]) ∧ outE E = o ∧ OwnE w' w.heap.size E ∧ G w w'
end Go.Proofs.Ythhmmjpgefinmaa
