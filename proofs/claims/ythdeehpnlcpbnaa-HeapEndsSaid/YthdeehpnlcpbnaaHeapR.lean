/- the law's own functions -/
import Derived.Test.YthdeehpnlcpbnaaHeapQ
namespace Go.Proofs.Ythdeehpnlcpbnaa
set_option linter.unusedVariables false
set_option linter.unusedSimpArgs false
open Go.RowKit Go.Shelf
attribute [local go_sem] Oper.semAt_some

def PickOut (m : Int) (w : World) (e : Ending) (w' : World) : Prop := (∃ r : Nat, (r : Int) < m ∧ e = .returned (.int .i64 r)) ∧ w = w'
theorem pick_any (n m : Int) (w : World) (hm : 1 ≤ m) (hm2 : m ≤ 1000) : Calls Try.prog 11 #[.int .i64 n, .int .i64 m] w (PickOut m w) := by
  have b1 : n.tmod m < m := Int.tmod_lt_of_pos n (by omega)
  have b2 : -m < n.tmod m := by
    have := Int.tmod_lt_of_pos (-n) (show 0 < m by omega)
    rw [Int.neg_tmod] at this
    omega
  have b3 : 0 ≤ n.tmod m + m := by omega
  have b4 : n.tmod m + m ≤ 2000 := by omega
  have h0 : ¬ m < 1 := by omega
  have hmz : ¬ m = 0 := by omega
  by_cases hn : n.tmod m < 0
  · go_enter Try.func11, Try.ntmps11
    go_wp2_with fail
    go_ret
    obtain ⟨r, hr⟩ := Int.eq_ofNat_of_zero_le b3
    exact ⟨⟨r, by omega, by rw [← hr]; rfl⟩, rfl⟩
  · go_enter Try.func11, Try.ntmps11
    go_wp2_with fail
    go_ret
    obtain ⟨r, hr⟩ := Int.eq_ofNat_of_zero_le (show 0 ≤ n.tmod m by omega)
    exact ⟨⟨r, by omega, by rw [← hr]; rfl⟩, rfl⟩
/-- a deed: what, key, many, items -/
structure Dd where
  what : Int
  key : Int
  many : Int
  v : Value
  xs : List Item
def dcells : List Dd → List Value
  | [] => []
  | d :: ds => .int .i64 d.what :: .int .i64 d.key :: .int .i64 d.many :: d.v :: dcells ds
theorem dcells_get : ∀ {ds : List Dd} {k : Nat} {d : Dd}, ds[k]? = some d → (dcells ds)[k * 4]? = some (.int .i64 d.what) ∧ (dcells ds)[k * 4 + 1]? = some (.int .i64 d.key) ∧ (dcells ds)[k * 4 + 2]? = some (.int .i64 d.many) ∧ (dcells ds)[k * 4 + 3]? = some d.v
  | a :: ds, 0, d, h => by cases h; exact ⟨rfl, rfl, rfl, rfl⟩
  | a :: ds, k + 1, d, h => by
    obtain ⟨x, y, z, u⟩ := dcells_get (ds := ds) (k := k) (d := d) (by simpa using h)
    rw [show (k + 1) * 4 = k * 4 + 4 by omega]
    exact ⟨by simpa [dcells] using x, by simpa [dcells] using y, by simpa [dcells] using z, by simpa [dcells] using u⟩
/-- deeds that came in -/
structure RdrD (W : World) (v : Value) (ds : List Dd) : Prop where
  rdr : Rdr W 4 v ds.length (dcells ds)
  row : ∀ d ∈ ds, Rdr W 2 d.v d.xs.length (icells d.xs)
theorem RdrD.g {W W' : World} {v : Value} {ds : List Dd} (h : RdrD W v ds) (hg : G W W') : RdrD W' v ds := ⟨h.rdr.g hg, fun d hd => (h.row d hd).g hg⟩
theorem RdrD.at {W : World} {p : Option Addr} {n c : Nat} {ds : List Dd} (h : RdrD W (.slice p n c) ds) {k : Nat} (hk : k < ds.length) : ∃ b o d q e, p = some ⟨b, o, none⟩ ∧ ds[k]? = some d ∧ d.v = .slice q d.xs.length e ∧
    W.cell? ⟨b, o + k * 4, none⟩ = some (.int .i64 d.what) ∧ W.cell? ⟨b, o + k * 4 + 1, none⟩ = some (.int .i64 d.key) ∧ W.cell? ⟨b, o + k * 4 + 2, none⟩ = some (.int .i64 d.many) ∧ W.cell? ⟨b, o + k * 4 + 3, none⟩ = some (.slice q d.xs.length e) ∧ Rdr W 2 (.slice q d.xs.length e) d.xs.length (icells d.xs) := by
  obtain ⟨hl, p', c', he, hc⟩ := h.rdr
  cases he
  obtain ⟨b, o, rfl, hcell⟩ := hc (by omega)
  have hd : ds[k]? = some ds[k] := List.getElem?_eq_getElem hk
  obtain ⟨x, y, z, u⟩ := dcells_get hd
  have hr := h.row _ (List.getElem_mem hk)
  obtain ⟨-, q, e, hv, -⟩ := id hr
  rw [hv] at hr u
  refine ⟨b, o, ds[k], q, e, rfl, hd, hv, hcell _ _ x, ?_, ?_, ?_, hr⟩
  · have := hcell _ _ y; rwa [← Nat.add_assoc] at this
  · have := hcell _ _ z; rwa [← Nat.add_assoc] at this
  · have := hcell _ _ u; rwa [← Nat.add_assoc] at this
/-- a size: where it is at most 600, so is all -/
def DSized (ds : List Dd) (r : Int) : Prop := 0 ≤ r ∧ r ≤ 40000000000000 ∧ (r ≤ 600 → (ds.length : Int) ≤ r ∧ ∀ d ∈ ds, d.xs.length ≤ 600)
theorem dsize_any (ds : List Dd) (v : Value) (w : World) (hv : RdrD w v ds) (hl : ∀ d ∈ ds, d.xs.length ≤ 8796093022208) (hn : ds.length ≤ 8796093022208) :
    Calls Try.prog 5 #[v] w fun e w' => ∃ r : Int, e = .returned (.int .i64 r) ∧ DSized ds r ∧ w = w' := by
  obtain ⟨hll, p, c, rfl, -⟩ := id hv.rdr
  obtain ⟨n, hnn⟩ : ∃ n, n = ds.length := ⟨_, rfl⟩
  rw [← hnn] at hn
  have HV := Lib.hid hv
  have HL := Lib.hid hl
  have HN := Lib.hid hnn
  rw [← hnn]
  clear hv hl hll hnn
  go_enter Try.func5, Try.ntmps5
  go_wp2_with fail
  go_loop [3, 4] (fun s i => ∃ (k : Nat) (r : Int), k ≤ n ∧ i = .int .i64 k ∧ s = .int .i64 r ∧ (n : Int) ≤ r ∧ r ≤ 17592186044416 ∧ Hid (∀ j d, j < k → ds[j]? = some d → (d.xs.length : Int) ≤ r)) (fun _ i => n - (intOf i).toNat)
  case atStart => exact ⟨0, n, by omega, rfl, rfl, by omega, by omega, (fun j l h => absurd h (by omega) : ∀ j d, j < 0 → ds[j]? = some d → (d.xs.length : Int) ≤ n)⟩
  case round =>
    obtain ⟨k, r, hk, rfl, rfl, hr1, hr2, HR⟩ := hrel
    by_cases hlt : k < n
    · by_cases hle : r ≤ 600
      · obtain ⟨b, o, d, q, e, rfl, hx, -, -, -, -, hcell, -⟩ := HV.out.at (k := k) (by have := HN.out; omega)
        have hll := HL.out d (List.mem_of_getElem? hx)
        have HX := Lib.hid hx
        obtain ⟨m, hm⟩ : ∃ m, m = d.xs.length := ⟨_, rfl⟩
        rw [← hm] at hcell hll
        have HM := Lib.hid hm
        clear hx hm
        go_wp2_with fail
        go_round
        case rel => exact ⟨k + 1, _, by omega, by go_num, rfl, by omega, by omega, (fun j d' hj hd' => by
          rcases (by omega : j < k ∨ j = k) with h | rfl
          · have := HR.out j d' h hd'; omega
          · rw [HX.out] at hd'; cases hd'; have := HM.out; omega : ∀ j d', j < k + 1 → ds[j]? = some d' → (d'.xs.length : Int) ≤ r + (m : Int))⟩
        case measure => simp [intOf]; omega
      · go_wp2_with fail
        go_ret
        exact ⟨_, rfl, ⟨by omega, by omega, fun h => absurd h (by omega)⟩, rfl⟩
    · have hle' : decide (k < n) = false := by simpa using hlt
      go_wp2_with fail
      go_ret
      refine ⟨_, rfl, ⟨by omega, by omega, fun h => ⟨by have := HN.out; omega, fun d hd => ?_⟩⟩, rfl⟩
      obtain ⟨j, hj⟩ := List.getElem?_of_mem hd
      have := HR.out j d (by have := (List.getElem?_eq_some_iff.1 hj).1; have := HN.out; omega) hj
      omega
end Go.Proofs.Ythdeehpnlcpbnaa
