/- rows of texts; how many -/
import Derived.Test.YtamhlflacnldfaaNameI
import Derived.Deep.Slices
import Derived.SliceStrings
import Derived.SizedLaws
namespace Go.Proofs.Ytamhlflacnldfaa
set_option linter.unusedVariables false
set_option linter.unusedSimpArgs false
open Go.RowKit Go.Shelf Go.Maps

/-- the slice v has these rows -/
def RdrRows (W : World) (v : Value) (ls : List (List ByteArray)) : Prop :=
  ∃ rv : List Value, Rdr W 1 v ls.length rv ∧ ∀ (i : Nat) (l : List ByteArray), ls[i]? = some l → ∃ x, rv[i]? = some x ∧ Rdr W 1 x l.length (strs l)
theorem RdrRows.row {W : World} {p : Option Addr} {c n : Nat} {ls : List (List ByteArray)} (h : RdrRows W (.slice p n c) ls) {i : Nat} (hi : i < ls.length) : ∃ b o l q d, p = some ⟨b, o, none⟩ ∧ ls[i]? = some l ∧
    W.cell? ⟨b, o + i, none⟩ = some (.slice q l.length d) ∧ Rdr W 1 (.slice q l.length d) l.length (strs l) := by
  obtain ⟨rv, hr, hx⟩ := h
  obtain ⟨p', c', he, hl, hc⟩ := hr.at
  cases he
  obtain ⟨b, o, rfl, hcell⟩ := hc (by omega)
  obtain ⟨x, hx1, hx2⟩ := hx i ls[i] (List.getElem?_eq_getElem hi)
  obtain ⟨q, d, rfl, -⟩ := hx2.at
  exact ⟨b, o, ls[i], q, d, rfl, List.getElem?_eq_getElem hi, hcell i _ hx1, hx2⟩
theorem RdrRows.shape {W : World} {v : Value} {ls : List (List ByteArray)} (h : RdrRows W v ls) : ∃ p c, v = .slice p ls.length c := by
  obtain ⟨rv, hr, hx⟩ := h
  obtain ⟨p, c, rfl, -⟩ := hr.at
  exact ⟨p, c, rfl⟩
theorem RdrRows.g {W W' : World} {v : Value} {ls : List (List ByteArray)} (h : RdrRows W v ls) (hg : G W W') : RdrRows W' v ls := by
  obtain ⟨rv, hr, hx⟩ := h
  refine ⟨rv, hr.g hg, fun i l hl => ?_⟩
  obtain ⟨x, h1, h2⟩ := hx i l hl
  exact ⟨x, h1, h2.g hg⟩

theorem spot_none {W : World} {a : Addr} {v : Value} (h : W.cell? a = some v) : a = ⟨a.block, a.off, none⟩ := by
  obtain ⟨b, o, s⟩ := a
  cases s with
  | none => rfl
  | some x =>
    unfold World.cell? at h
    split at h <;> simp at h
theorem weightsAll_mem {H : Type} {P : Program} {e : TypeId} {d : DataW H} {n : Nat} : ∀ {ds : List (DataW H)}, d ∈ ds → n ∈ d.weights P e → n ∈ DataW.weightsAll P e ds
  | [], h, _ => by cases h
  | x :: ds, h, hn => by
    simp only [DataW.weightsAll, List.mem_append]
    rcases List.mem_cons.1 h with h | h
    · subst h; exact .inl hn
    · exact .inr (weightsAll_mem h hn)
/-- a row of texts that came in -/
theorem open_row {H : Type} {enc : TypeId × Value → H} {W : World} {sp : Nat → Bool} {held : Bool} {t e : TypeId} {fuel : Nat} {v : Value} {x : DataW H × List MemPlace} (ht : Try.prog.underlying t = some (.slice e)) (he : Try.prog.underlying e = some .string) (hc : Try.prog.cellsOf e = 1)
    (h : DataW.trod enc Try.prog W 0 sp held fuel t [v] = some x) : ∃ l : List ByteArray, Rdr W 1 v l.length (strs l) ∧ (∀ s ∈ l, s.size ≤ maxLen) ∧ ∀ n, (∀ m ∈ x.1.weights Try.prog t, m ≤ n) → l.length * Try.prog.bytesOf e ≤ n := by
  rcases ChangeShapes.open_strings ht he hc h with ⟨h1, -⟩ | ⟨a, len, cap, ss, h1, -, hl, hm, hz, hxx, hcell, hws⟩
  · cases h1
    exact ⟨[], Rdr.nil _ _ _ _, by simp, by simp⟩
  · cases h1
    have hle : len ≤ ss.length := by rw [hz]; split <;> omega
    have e1 : (ss.take len).length = len := by rw [List.length_take]; omega
    refine ⟨ss.take len, ?_, fun s hs => hws s (List.mem_of_mem_take hs), fun n hn => ?_⟩
    rotate_left
    · subst hxx
      have hw := hn ((((ChangeShapes.strs (H := H) (ss.take len)).length) + (ChangeShapes.strs (H := H) (ss.drop len)).length) * Try.prog.bytesOf e) (by simp [DataW.weights, ht])
      refine Nat.le_trans (Nat.mul_le_mul_right _ ?_) hw
      simp [ChangeShapes.strs]
    rw [e1]
    refine ⟨by simp [strs]; omega, _, _, rfl, fun hn => ?_⟩
    have h0 := hcell 0 (by omega)
    have ha := spot_none h0
    rw [show a.add 0 = a from by simp [Addr.add]] at ha h0
    refine ⟨a.block, a.off, by rw [← ha], fun j u hu => ?_⟩
    have hj : j < len := by
      have := (List.getElem?_eq_some_iff.1 hu).1
      simp [strs] at this; omega
    have hcj := hcell j (by omega)
    rw [ha, addr_add] at hcj
    rw [hcj]
    rw [strs, List.getElem?_map, List.getElem?_take_of_lt hj] at hu
    rw [List.getD_eq_getElem?_getD]
    rw [List.getElem?_eq_getElem (show j < ss.length by omega)] at hu ⊢
    simpa using hu
theorem open_rows {H : Type} {enc : TypeId × Value → H} {W : World} {sp : Nat → Bool} {held : Bool} {t u e : TypeId} {fuel : Nat} {v : Value} {x : DataW H × List MemPlace} (ht : Try.prog.underlying t = some (.slice u)) (hu : Try.prog.underlying u = some (.slice e)) (he : Try.prog.underlying e = some .string)
    (hcu : Try.prog.cellsOf u = 1) (hc : Try.prog.cellsOf e = 1) (h : DataW.trod enc Try.prog W 0 sp held fuel t [v] = some x) :
    ∃ ls : List (List ByteArray), RdrRows W v ls ∧ (∀ l ∈ ls, ∀ s ∈ l, s.size ≤ maxLen) ∧ ∀ n, (∀ m ∈ x.1.weights Try.prog t, m ≤ n) → ls.length * Try.prog.bytesOf u ≤ n ∧ ∀ l ∈ ls, l.length * Try.prog.bytesOf e ≤ n := by
  rcases Deep.open_slice1 ht hcu h with ⟨h1, -⟩ | ⟨a, len, cap, m, n, V, D, Pl, h1, -, hl, hm, hz, hxx, hx⟩
  · cases h1
    exact ⟨[], ⟨[], Rdr.nil _ _ _ _, by simp⟩, by simp, by simp⟩
  · cases h1
    have hle : len ≤ m := by rw [hz]; split <;> omega
    have each : ∀ i, ∃ l : List ByteArray, i < len → Rdr W 1 (V i) l.length (strs l) ∧ (∀ s ∈ l, s.size ≤ maxLen) ∧ ∀ n, (∀ m ∈ (D i).weights Try.prog u, m ≤ n) → l.length * Try.prog.bytesOf e ≤ n := by
      intro i
      by_cases hi : i < len
      · obtain ⟨l, h1, h2⟩ := open_row hu he hc (hx i (by omega)).2
        exact ⟨l, fun _ => ⟨h1, h2⟩⟩
      · exact ⟨[], fun h => absurd h hi⟩
    obtain ⟨Lf, hLf⟩ := Classical.axiomOfChoice each
    have e1 : ((List.range len).map Lf).length = len := by simp
    refine ⟨(List.range len).map Lf, ⟨(List.range len).map V, ?_, ?_⟩, ?_, fun N hN => ⟨?_, ?_⟩⟩
    · rw [e1]
      refine ⟨by simp, _, _, rfl, fun hn => ?_⟩
      have h0 := (hx 0 (by omega)).1
      have ha := spot_none h0
      rw [show a.add 0 = a from by simp [Addr.add]] at ha h0
      refine ⟨a.block, a.off, by rw [← ha], fun j u hu => ?_⟩
      have hj : j < len := by
        have := (List.getElem?_eq_some_iff.1 hu).1
        simpa using this
      have hcj := (hx j (by omega)).1
      rw [ha, addr_add] at hcj
      rw [hcj]
      simpa [hj] using hu
    · intro i l hil
      have hi : i < len := by
        have := (List.getElem?_eq_some_iff.1 hil).1
        simpa using this
      have : Lf i = l := by simpa [hi] using hil
      subst this
      exact ⟨V i, by simp [hi], (hLf i hi).1⟩
    · intro l hl
      simp at hl
      obtain ⟨i, hi, rfl⟩ := hl
      exact (hLf i hi).2.1
    · subst hxx
      have hw := hN (((((List.range len).map D).length) + ((List.range (m - len)).map fun j => D (len + j)).length) * Try.prog.bytesOf u) (by simp [DataW.weights, ht])
      refine Nat.le_trans (Nat.mul_le_mul_right _ ?_) hw
      simp
    · intro l hl
      simp at hl
      obtain ⟨i, hi, rfl⟩ := hl
      refine (hLf i hi).2.2 N (fun q hq => hN q ?_)
      subst hxx
      simp only [DataW.weights, ht]
      refine List.mem_cons_of_mem _ (List.mem_append_left _ (weightsAll_mem (d := D i) ?_ hq))
      simp
      exact ⟨i, hi, rfl⟩

/-- how many texts -/
def tot (ls : List (List ByteArray)) : Nat := (ls.map List.length).sum
theorem tot_snoc {ls : List (List ByteArray)} {k : Nat} {l : List ByteArray} (h : ls[k]? = some l) : tot (ls.take (k + 1)) = tot (ls.take k) + l.length := by
  rw [List.take_add_one, h]; simp [tot]
theorem tot_take_le (ls : List (List ByteArray)) (k : Nat) : tot (ls.take k) ≤ tot ls := by
  conv => rhs; rw [← List.take_append_drop k ls]
  simp only [tot, List.map_append, List.sum_append]
  omega
theorem size_any (ls : List (List ByteArray)) (v : Value) (w : World) (hv : RdrRows w v ls) (h1 : ls.length ≤ 8796093022208) (h2 : ∀ l ∈ ls, l.length ≤ 8796093022208) :
    Calls Try.prog 11 #[v] w fun e w' => ∃ z : Int, e = .returned (.int .i64 z) ∧ (z ≤ 400 → ls.length + tot ls ≤ 400) ∧ w = w' := by
  obtain ⟨p, c, rfl⟩ := hv.shape
  have HV := Lib.hid hv
  have H2 := Lib.hid h2
  obtain ⟨n, hnn⟩ : ∃ n, n = ls.length := ⟨_, rfl⟩
  rw [← hnn] at h1
  simp only [← hnn]
  have HN := Lib.hid hnn
  clear hv h2 hnn
  go_enter Try.func11, Try.ntmps11
  go_wp2_with fail
  go_loop [3, 4] (fun z i => ∃ (k : Nat) (m : Nat), k ≤ n ∧ i = .int .i64 k ∧ z = .int .i64 m ∧ m ≤ 400 + 2 * 140737488355328 ∧ Hid (m = n + tot (ls.take k))) (fun _ i => n - (intOf i).toNat)
  case atStart => exact ⟨0, n, by omega, rfl, rfl, by omega, (by simp [tot] : n = n + tot (ls.take 0))⟩
  case round =>
    obtain ⟨k, m, hk, rfl, rfl, hm, HM⟩ := hrel
    by_cases hle : (m : Int) ≤ 400
    · by_cases hlt : k < n
      · obtain ⟨b, o, l, q, d, rfl, hl, hcell, -⟩ := HV.out.row (i := k) (by have := HN.out; omega)
        have hll := H2.out l (List.mem_of_getElem? hl)
        have HT := Lib.hid (tot_snoc hl)
        clear hl
        go_wp2_with fail
        go_round
        case rel => exact ⟨k + 1, m + l.length, by omega, by go_num, by go_num, by omega, (by have h1 := HT.out; have h2 := HM.out; show m + l.length = n + tot (ls.take (k + 1)); rw [h1]; omega)⟩
        case measure => simp [intOf]; omega
      · have HE := Lib.hid (by rw [show ls.take k = ls from List.take_of_length_le (by have := HN.out; omega)] at HM; exact HM.out : m = n + tot ls)
        go_wp2_with fail
        go_ret
        exact ⟨_, rfl, fun h => by have := HE.out; omega, rfl⟩
    · have hd : decide ((m : Int) ≤ 400) = false := by simpa using hle
      have HG := Lib.hid (fun h => absurd h hle : (m : Int) ≤ 400 → n + tot ls ≤ 400)
      have HLE := Lib.hid hle
      clear hle
      by_cases hlt : k < n
      · go_wp2_with fail
        go_ret
        exact ⟨_, rfl, HG.out, rfl⟩
      · go_wp2_with fail
        go_ret
        exact ⟨_, rfl, HG.out, rfl⟩
end Go.Proofs.Ytamhlflacnldfaa
