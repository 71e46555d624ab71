/- rows of edges; how many edges, props there are -/
import Derived.Test.YtfdajignnnhnmaaEdgeO
namespace Go.Proofs.Ytfdajignnnhnmaa
set_option linter.unusedVariables false
set_option linter.unusedSimpArgs false
open Go.RowKit Go.Shelf
attribute [local go_sem] Oper.semAt_some

def ecs : List Edg → List Value
  | [] => []
  | E :: l => .string E.f :: .string E.t :: .string E.l :: .int .i64 E.tm :: E.v :: ecs l
theorem ecs_app : ∀ l m : List Edg, ecs (l ++ m) = ecs l ++ ecs m
  | [], m => rfl
  | x :: l, m => by simp only [ecs, List.cons_append, ecs_app l m]
theorem ecs_len : ∀ l : List Edg, (ecs l).length = l.length * 5
  | [] => rfl
  | x :: l => by simp only [ecs, List.length_cons, ecs_len l]; omega
theorem ecs_get : ∀ {l : List Edg} {k : Nat} {E : Edg}, l[k]? = some E → (ecs l)[k * 5]? = some (.string E.f) ∧ (ecs l)[k * 5 + 1]? = some (.string E.t) ∧ (ecs l)[k * 5 + 2]? = some (.string E.l) ∧ (ecs l)[k * 5 + 3]? = some (.int .i64 E.tm) ∧ (ecs l)[k * 5 + 4]? = some E.v
  | x :: l, 0, E, h => by cases h; exact ⟨rfl, rfl, rfl, rfl, rfl⟩
  | x :: l, k + 1, E, h => by
    obtain ⟨a, b, c, d, e⟩ := ecs_get (l := l) (k := k) (E := E) (by simpa using h)
    simp only [ecs, Nat.add_mul, Nat.one_mul]
    exact ⟨by simpa using a, by simpa using b, by simpa using c, by simpa using d, by simpa using e⟩
/-- a row of edges is read -/
structure RdrE (W : World) (v : Value) (l : List Edg) : Prop where
  row : Rdr W 5 v l.length (ecs l)
  each : ∀ E ∈ l, EdgAt W E
theorem RdrE.g {W W' : World} {v : Value} {l : List Edg} (h : RdrE W v l) (hg : G W W') : RdrE W' v l := ⟨h.row.g hg, fun E hE => (h.each E hE).g hg⟩
theorem RdrE.shape {W : World} {v : Value} {l : List Edg} (h : RdrE W v l) : ∃ p c, v = .slice p l.length c := by
  obtain ⟨-, p, c, h, -⟩ := h.row; exact ⟨p, c, h⟩
theorem RdrE.at {W : World} {p : Option Addr} {n c : Nat} {l : List Edg} (h : RdrE W (.slice p n c) l) {k : Nat} {E : Edg} (hk : l[k]? = some E) : ∃ b o, p = some ⟨b, o, none⟩ ∧ W.cell? ⟨b, o + k * 5, none⟩ = some (.string E.f) ∧ W.cell? ⟨b, o + k * 5 + 1, none⟩ = some (.string E.t) ∧ W.cell? ⟨b, o + k * 5 + 2, none⟩ = some (.string E.l) ∧ W.cell? ⟨b, o + k * 5 + 3, none⟩ = some (.int .i64 E.tm) ∧ W.cell? ⟨b, o + k * 5 + 4, none⟩ = some E.v := by
  obtain ⟨-, p', c', he, hc⟩ := h.row
  cases he
  have h0 : 0 < l.length := by have := (List.getElem?_eq_some_iff.1 hk).1; omega
  obtain ⟨b, o, hp, hcell⟩ := hc h0
  obtain ⟨a0, a1, a2, a3, a4⟩ := ecs_get hk
  exact ⟨b, o, hp, hcell _ _ a0, by rw [Nat.add_assoc]; exact hcell _ _ a1, by rw [Nat.add_assoc]; exact hcell _ _ a2, by rw [Nat.add_assoc]; exact hcell _ _ a3, by rw [Nat.add_assoc]; exact hcell _ _ a4⟩
/-- how many edges, props there are -/
def esum : List Edg → Nat
  | [] => 0
  | E :: l => E.ps.length + esum l
theorem esum_app : ∀ l m : List Edg, esum (l ++ m) = esum l + esum m
  | [], m => by simp [esum]
  | x :: l, m => by simp only [esum, List.cons_append, esum_app l m]; omega
theorem esum_take {l : List Edg} {k : Nat} {E : Edg} (h : l[k]? = some E) : esum (l.take (k + 1)) = esum (l.take k) + E.ps.length := by
  rw [List.take_add_one, h, esum_app]; simp [esum]
theorem esum_mem : ∀ {l : List Edg} {E : Edg}, E ∈ l → E.ps.length ≤ esum l
  | x :: l, E, h => by
    rcases List.mem_cons.1 h with h | h
    · subst h; simp only [esum]; omega
    · have := esum_mem h; simp only [esum]; omega
set_option maxHeartbeats 1000000 in
theorem size_any (l : List Edg) (v : Value) (w : World) (h : RdrE w v l) (hn : l.length ≤ 4398046511104) :
    Calls Try.prog 15 #[v] w fun e w' => ∃ n : Nat, e = .returned (.int .i64 n) ∧ n ≤ 4398046513104 ∧ (n ≤ 2000 → n = l.length + esum l) ∧ w = w' := by
  obtain ⟨p, c, rfl⟩ := h.shape
  obtain ⟨m, hm⟩ : ∃ m, m = l.length := ⟨_, rfl⟩
  have H := Lib.hid h
  have HM := Lib.hid hm
  rw [← hm] at hn ⊢
  clear h hm
  go_enter Try.func15, Try.ntmps15
  go_wp2_with fail
  go_loop [3, 4] (fun x i => ∃ k s : Nat, k ≤ m ∧ i = .int .i64 k ∧ x = .int .i64 s ∧ Hid (s = m + esum (l.take k)) ∧ s ≤ 4398046513104) (fun _ i => m - (intOf i).toNat)
  case atStart => exact ⟨0, m, by omega, rfl, rfl, Lib.hid (by simp [esum]), by omega⟩
  case round =>
    obtain ⟨k, s, hk, rfl, rfl, HS, hs⟩ := hrel
    by_cases hlt : k < m
    · have hkI : (k : Int) < (m : Int) := by omega
      by_cases h2 : s ≤ 2000
      · have h2I : (s : Int) ≤ 2000 := by omega
        obtain ⟨E, hE⟩ : ∃ E, l[k]? = some E := ⟨l[k]'(by have := HM.out; omega), List.getElem?_eq_getElem _⟩
        have hsl : RdrE w (.slice p m c) l := by rw [HM.out]; exact H.out
        obtain ⟨b, o, rfl, -, -, -, -, c4⟩ := hsl.at hE
        have hat := hsl.each E (List.mem_of_getElem? hE)
        obtain ⟨-, vp, vc, hvv, -⟩ := id hat.rdr
        have hpn := hat.n
        have HT := Lib.hid (esum_take hE)
        rw [hvv] at c4
        obtain ⟨q, hq⟩ : ∃ q, q = E.ps.length := ⟨_, rfl⟩
        rw [← hq] at c4 HT hpn
        clear hvv hq hsl hat hE
        go_wp2_with fail
        go_round
        case rel => exact ⟨k + 1, s + q, by omega, by go_num, by go_num, Lib.hid (by rw [HT.out, HS.out]; omega), by omega⟩
        case measure => simp [intOf]; omega
      · have h2I : ¬ (s : Int) ≤ 2000 := by omega
        go_wp2_with fail
        go_ret
        exact ⟨s, rfl, hs, fun h => by omega, rfl⟩
    · have hkm : l.take k = l := List.take_of_length_le (by have := HM.out; omega)
      have HF := Lib.hid (show s = m + esum l by rw [HS.out, hkm])
      clear hkm
      go_wp2_with fail
      go_ret
      exact ⟨s, rfl, hs, fun h => HF.out, rfl⟩
theorem rdrE_two {W : World} (A B : Edg) (ha : EdgAt W A) (hb : EdgAt W B) : RdrE (W.alloc (.cells (ecs [A, B]).toArray 27)) (.slice (some ⟨W.heap.size, 0, none⟩) 2 2) [A, B] :=
  ⟨rdr_alloc W (ecs [A, B]) 27 (0, 0) 5 2 2 rfl, fun E hE => by
    rcases List.mem_cons.1 hE with h | h
    · subst h; exact ha.g ((G.refl W).alloc _)
    · obtain rfl := List.mem_singleton.1 h; exact hb.g ((G.refl W).alloc _)⟩
end Go.Proofs.Ytfdajignnnhnmaa
