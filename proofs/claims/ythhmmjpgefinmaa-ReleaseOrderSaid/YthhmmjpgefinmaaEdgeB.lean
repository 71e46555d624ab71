/- laid together: EdgeB -/
import Derived.Test.YthhmmjpgefinmaaEdgeA
/- edges: props; why an edge is not right -/
namespace Go.Proofs.Ythhmmjpgefinmaa
set_option linter.unusedVariables false
set_option linter.unusedSimpArgs false
open Go.RowKit Go.Shelf
attribute [local go_sem] Oper.semAt_some

/-- a prop: its key, its value -/
abbrev Prp := ByteArray × Val
def pcells : List Prp → List Value
  | [] => []
  | p :: ps => .string p.1 :: .int .i64 p.2.1 :: .int .i64 p.2.2.1 :: .string p.2.2.2 :: pcells ps
theorem pcells_app : ∀ l m : List Prp, pcells (l ++ m) = pcells l ++ pcells m
  | [], m => rfl
  | x :: l, m => by simp only [pcells, List.cons_append, pcells_app l m]
theorem pcells_len : ∀ l : List Prp, (pcells l).length = l.length * 4
  | [] => rfl
  | x :: l => by simp only [pcells, List.length_cons, pcells_len l]; omega
theorem pcells_get : ∀ {ps : List Prp} {k : Nat} {p : Prp}, ps[k]? = some p → (pcells ps)[k * 4]? = some (.string p.1) ∧ (pcells ps)[k * 4 + 1]? = some (.int .i64 p.2.1) ∧ (pcells ps)[k * 4 + 2]? = some (.int .i64 p.2.2.1) ∧ (pcells ps)[k * 4 + 3]? = some (.string p.2.2.2)
  | a :: ds, 0, d, h => by cases h; exact ⟨rfl, rfl, rfl, rfl⟩
  | a :: ds, k + 1, d, h => by
    obtain ⟨x, y, z, u⟩ := pcells_get (ps := ds) (k := k) (p := d) (by simpa using h)
    rw [show (k + 1) * 4 = k * 4 + 4 by omega]
    exact ⟨by simpa [pcells] using x, by simpa [pcells] using y, by simpa [pcells] using z, by simpa [pcells] using u⟩
theorem pcells_one : ∀ l : List Prp, ∀ u ∈ pcells l, u.oneCell' = true
  | [], u, h => by simp [pcells] at h
  | x :: l, u, h => by
    simp only [pcells, List.mem_cons] at h
    rcases h with rfl | rfl | rfl | rfl | h
    · rfl
    · rfl
    · rfl
    · rfl
    · exact pcells_one l u h
theorem Rdr.prop {W : World} {p : Option Addr} {n c : Nat} {ps : List Prp} (h : Rdr W 4 (.slice p n c) n (pcells ps)) {k : Nat} {x : Prp} (hx : ps[k]? = some x) : ∃ b o, p = some ⟨b, o, none⟩ ∧
    W.cell? ⟨b, o + k * 4, none⟩ = some (.string x.1) ∧ W.cell? ⟨b, o + k * 4 + 1, none⟩ = some (.int .i64 x.2.1) ∧ W.cell? ⟨b, o + k * 4 + 2, none⟩ = some (.int .i64 x.2.2.1) ∧ W.cell? ⟨b, o + k * 4 + 3, none⟩ = some (.string x.2.2.2) := by
  have hk := (List.getElem?_eq_some_iff.1 hx).1
  have hn : 0 < n := by
    have h1 := h.1
    rw [pcells_len] at h1; omega
  obtain ⟨b, o, rfl, hc⟩ := h.one hn
  obtain ⟨x0, x1, x2, x3⟩ := pcells_get hx
  exact ⟨b, o, rfl, hc _ _ x0, by rw [Nat.add_assoc]; exact hc _ _ x1, by rw [Nat.add_assoc]; exact hc _ _ x2, by rw [Nat.add_assoc]; exact hc _ _ x3⟩
/-- is a text no later than another one? -/
def leB (a b : ByteArray) : Bool := Op.bytesLess a.toList b.toList || (a.toList == b.toList)
/-- the keys rise, keys and values are right -/
def risB : ByteArray → List Prp → Bool
  | _, [] => true
  | last, p :: ps => !leB p.1 last && freeB p.1 && rightV p.2 && risB p.1 ps
def propsB (l : List Prp) : Bool := risB ⟨#[]⟩ l && decide (l.length ≤ 8)
theorem free_is (s : ByteArray) (b : Bool) (w : World) (hs : s.size ≤ maxLen) (h : freeB s = b) : Calls Try.prog 58 #[.string s] w fun e w' => e = .returned (.bool b) ∧ G w w' := by rw [← h]; exact free_any s w hs
def PSz (l : List Prp) : Prop := ∀ p ∈ l, p.1.size ≤ maxLen ∧ p.2.2.2.size ≤ maxLen

theorem props_any (ps : List Prp) (v : Value) (w : World) (hv : Rdr w 4 v ps.length (pcells ps)) (hn : ps.length ≤ 4398046511104) (hz : PSz ps) :
    Calls Try.prog 59 #[v] w fun e w' => e = .returned (.bool (propsB ps)) ∧ G w w' := by
  obtain ⟨-, vp, vc, rfl, -⟩ := id hv
  obtain ⟨n, hnn⟩ : ∃ n, n = ps.length := ⟨_, rfl⟩
  have HN := Lib.hid hnn
  rw [← hnn] at hv hn ⊢
  have HV := Lib.hid hv
  have HZ := Lib.hid hz
  clear hnn hv hz
  go_enter Try.func59, Try.ntmps59
  go_wp2_with fail
  go_loopw [3, 8] (fun l i wr => ∃ (k : Nat) (last : ByteArray), k ≤ n ∧ i = .int .i64 k ∧ l = .string last ∧ Hid (risB ⟨#[]⟩ ps = risB last (ps.drop k)) ∧ G w wr) (fun _ i _ => n - (intOf i).toNat)
  case atStart => exact ⟨0, ⟨#[]⟩, by omega, rfl, rfl, Lib.hid rfl, G.refl _⟩
  case round =>
    obtain ⟨k, last, hk, rfl, rfl, HR, hg⟩ := hrel
    by_cases hlt : k < n
    · obtain ⟨x, hx⟩ : ∃ x, ps[k]? = some x := ⟨ps[k]'(by have := HN.out; omega), List.getElem?_eq_getElem _⟩
      obtain ⟨b, o, rfl, c0, c1, c2, c3⟩ := HV.out.prop hx
      have hz1 := HZ.out x (List.mem_of_getElem? hx)
      have hdr : ps.drop k = x :: ps.drop (k + 1) := by rw [List.drop_eq_getElem_cons (by have := HN.out; omega)]; congr 1; exact Option.some.inj ((List.getElem?_eq_getElem _).symm.trans hx)
      have hbl := World.block_lt_of_cell? w _ c0
      have c0 := hg.cell c0
      have c1 := hg.cell c1
      have c2 := hg.cell c2
      have c3 := hg.cell c3
      obtain ⟨x0, x1, x2, x3⟩ := x
      simp only at c0 c1 c2 c3 hz1
      rw [hdr, risB] at HR
      have HDR := Lib.hid hdr
      clear hdr hx
      have hgA : G w (wr.alloc (.cells #[.string x0, .int .i64 x1, .int .i64 x2, .string x3] 105)) := hg.alloc _
      cases hle : Op.bytesLess x0.toList last.toList
      · cases heq : (x0.toList == last.toList)
        · have hL : leB x0 last = false := by rw [leB, hle, heq]; rfl
          cases hf : freeB x0
          · have H2 := Lib.hid (show propsB ps = false by rw [propsB, HR.out, hf]; simp)
            have HF := Lib.hid (free_is x0 false (wr.alloc (.cells #[.string x0, .int .i64 x1, .int .i64 x2, .string x3] 105)) hz1.1 hf)
            clear HR hL hf hz1
            go_wp2_with fail
            refine HF.out.mono ?_
            rintro e w1 ⟨rfl, hg1⟩
            clear HF
            go_wp2_with fail
            go_ret
            exact ⟨by rw [H2.out]; rfl, hgA.trans hg1⟩
          · have HF := Lib.hid (free_is x0 true (wr.alloc (.cells #[.string x0, .int .i64 x1, .int .i64 x2, .string x3] 105)) hz1.1 hf)
            have a0 := cell_alloc_at wr [.string x0, .int .i64 x1, .int .i64 x2, .string x3] 105 (0, 0) 0 _ rfl
            have a1 := cell_alloc_at wr [.string x0, .int .i64 x1, .int .i64 x2, .string x3] 105 (0, 0) 1 _ rfl
            have a2 := cell_alloc_at wr [.string x0, .int .i64 x1, .int .i64 x2, .string x3] 105 (0, 0) 2 _ rfl
            have a3 := cell_alloc_at wr [.string x0, .int .i64 x1, .int .i64 x2, .string x3] 105 (0, 0) 3 _ rfl
            simp only [Nat.zero_add] at a0 a1 a2 a3
            have hz3 := hz1.2
            rw [hL, hf] at HR
            clear hL hf hz1
            go_wp2_with fail
            refine HF.out.mono ?_
            rintro e w1 ⟨rfl, hg1⟩
            have hgB := hgA.trans hg1
            have a0 := hg1.cell a0
            have a1 := hg1.cell a1
            have a2 := hg1.cell a2
            have a3 := hg1.cell a3
            clear HF hg1 c0 c1 c2 c3
            cases hr : rightV (x1, x2, x3)
            · have H2 := Lib.hid (show propsB ps = false by rw [propsB, HR.out, hr]; simp)
              have HR2 := Lib.hid (right_any (x1, x2, x3) w1 hz3)
              rw [hr] at HR2
              unfold vv at HR2
              clear HR hr hz3
              go_wp2_with fail
              refine HR2.out.mono ?_
              rintro e w2 ⟨rfl, hg2⟩
              clear HR2
              go_wp2_with fail
              go_ret
              exact ⟨by rw [H2.out]; rfl, hgB.trans hg2⟩
            · have HR2 := Lib.hid (right_any (x1, x2, x3) w1 hz3)
              have HR3 := Lib.hid (show risB ⟨#[]⟩ ps = risB x0 (ps.drop (k + 1)) by rw [HR.out, hr]; rfl)
              rw [hr] at HR2
              unfold vv at HR2
              clear HR hr hz3
              go_wp2_with fail
              refine HR2.out.mono ?_
              rintro e w2 ⟨rfl, hg2⟩
              have a0 := hg2.cell a0
              have hgC := hgB.trans hg2
              clear HR2 hg2 a1 a2 a3
              go_wp2_with fail
              go_roundw
              case rel => exact ⟨k + 1, x0, by omega, by go_num, rfl, HR3, hgC⟩
              case measure => simp [intOf]; omega
        · have hL : leB x0 last = true := by rw [leB, hle, heq]; rfl
          have H2 := Lib.hid (show propsB ps = false by rw [propsB, HR.out, hL]; simp)
          clear hL HR hz1
          go_wp2_with fail
          go_ret
          exact ⟨by rw [H2.out]; rfl, hgA⟩
      · have hL : leB x0 last = true := by rw [leB, hle]; rfl
        have H2 := Lib.hid (show propsB ps = false by rw [propsB, HR.out, hL]; simp)
        clear hL HR hz1
        go_wp2_with fail
        go_ret
        exact ⟨by rw [H2.out]; rfl, hgA⟩
    · have H2 := Lib.hid (show propsB ps = decide (ps.length ≤ 8) by rw [propsB, HR.out, List.drop_of_length_le (by have := HN.out; omega)]; simp [risB])
      rw [← HN.out] at H2
      by_cases h8 : n ≤ 8
      · have H3 := Lib.hid (show propsB ps = true by rw [H2.out]; simpa using h8)
        go_wp2_with fail
        go_ret
        exact ⟨by simp [H3.out]; omega, hg⟩
      · have H3 := Lib.hid (show propsB ps = false by rw [H2.out]; simpa using h8)
        go_wp2_with fail
        go_ret
        exact ⟨by simp [H3.out]; omega, hg⟩
end Go.Proofs.Ythhmmjpgefinmaa
