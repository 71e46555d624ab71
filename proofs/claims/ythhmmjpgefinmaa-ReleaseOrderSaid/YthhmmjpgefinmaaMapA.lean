/- a map from numbers to slices: what it holds -/
import Derived.Test.YthhmmjpgefinmaaGB
import Derived.Maps.RangeWalk
namespace Go.Proofs.Ythhmmjpgefinmaa
set_option linter.unusedVariables false
set_option linter.unusedSimpArgs false
open Go.RowKit Go.Shelf
open Go.Maps (Keyed)

/-- an element that is a slice, as it stands -/
def hdrE (v : Value) : Option (DataW Value × List MemPlace) := match v with
  | .slice _ _ _ => some (.held v, [])
  | _ => none
abbrev NOR : Value := .slice none 0 0
abbrev LI (t : Int) : Lit := .int .i64 t
theorem hdrE_mk (p : Option Addr) (n c : Nat) : hdrE (.slice p n c) = some (.held (.slice p n c), []) := rfl
theorem hdrE_inv {v : Value} {y : DataW Value × List MemPlace} (h : hdrE v = some y) : y = (.held v, []) ∧ ∃ p n c, v = .slice p n c := by
  cases v <;> simp [hdrE] at h
  exact ⟨h.symm, _, _, _, rfl⟩
theorem keyI : Keyed Try.prog 3 := Go.Maps.int_keyed Try.underlying3
theorem wfI {t : Int} (h : -9223372036854775808 ≤ t ∧ t ≤ 9223372036854775807) : (Lit.int .i64 t).wf = true := WalkArith.wf_i64 h
theorem wfI_inv {t : Int} (h : (Lit.int .i64 t).wf = true) : -9223372036854775808 ≤ t ∧ t ≤ 9223372036854775807 := by
  have h1 : IntKind.i64.min ≤ t ∧ t ≤ IntKind.i64.max := by simpa [Lit.wf] using h
  have e1 : IntKind.i64.min = -9223372036854775808 := rfl
  have e2 : IntKind.i64.max = 9223372036854775807 := rfl
  rw [e1, e2] at h1
  exact h1
theorem keyI_of {t : Int} (h : -9223372036854775808 ≤ t ∧ t ≤ 9223372036854775807) : keyOf Try.prog 3 (.int .i64 t) = some (LI t) := Go.Maps.keyOf_int_mk Try.underlying3 (wfI h)
/-- block b is a map: m says what lies at a number, ks are those that are there -/
structure MapS (W : World) (b : Nat) (m : Int → Value) (ks : List Int) : Prop where
  own : ∃ D : DataW Value, W.ownsMap Try.prog 3 hdrE b ks.length D ∧ Maps.size D = ks.length ∧ (∀ t, D.atKey (LI t) (.held NOR) = .held (m t)) ∧ (∀ t, Maps.has D (LI t) = decide (t ∈ ks))
  nd : ks.Nodup
theorem MapS.lt {W : World} {b : Nat} {m : Int → Value} {ks : List Int} (h : MapS W b m ks) : b < W.heap.size := by
  obtain ⟨D, hD, -⟩ := h.own; exact hD.lt
theorem MapS.kept {W W' : World} {row : Option Nat} {b : Nat} {m : Int → Value} {ks : List Int} (h : MapS W b m ks) (hg : W.grownBy W' row) (hne : some b ≠ row) : MapS W' b m ks := by
  obtain ⟨⟨D, hD, r⟩, hn⟩ := h
  exact ⟨⟨D, hD.kept hg hne, r⟩, hn⟩
theorem ownsMap_fr {S : Nat → Prop} {W W' : World} {b n : Nat} {D : DataW Value} (h : W.ownsMap Try.prog 3 hdrE b n D) (hf : Fr S W W') (hb : ¬ S b) : W'.ownsMap Try.prog 3 hdrE b n D := by
  have hl := h.lt
  obtain ⟨es, clock, h1, r⟩ := h
  exact ⟨es, clock, (hf.block b hl hb).trans h1, r⟩
theorem MapS.fr {S : Nat → Prop} {W W' : World} {b : Nat} {m : Int → Value} {ks : List Int} (h : MapS W b m ks) (hf : Fr S W W') (hb : ¬ S b) : MapS W' b m ks := by
  obtain ⟨⟨D, hD, r⟩, hn⟩ := h
  exact ⟨⟨D, ownsMap_fr hD hf hb, r⟩, hn⟩
theorem MapS.g {W W' : World} {b : Nat} {m : Int → Value} {ks : List Int} (h : MapS W b m ks) (hg : G W W') : MapS W' b m ks := h.fr (hg.fr (fun _ => False)) (fun x => x)
theorem MapS.made (W : World) : MapS (W.alloc (.map #[] 0)) W.heap.size (fun _ => NOR) [] :=
  ⟨⟨.map [], World.ownsMap_made W _ _ _, rfl, fun t => rfl, fun t => rfl⟩, List.nodup_nil⟩
/-- a number's element is a slice -/
theorem MapS.look {W : World} {b : Nat} {m : Int → Value} {ks : List Int} (h : MapS W b m ks) {t : Int} (ht : -9223372036854775808 ≤ t ∧ t ≤ 9223372036854775807) :
    (Instr.lookup 79 (.map (some b)) (.int .i64 t) false).run Try.prog W = .ok (m t) W ∧ ∃ p n c, m t = .slice p n c := by
  obtain ⟨⟨D, hD, -, hat, -⟩, -⟩ := h
  obtain ⟨v, ps, hr, hv⟩ := hD.lookup keyI (show Try.prog.underlying 79 = some (.map 3 40) from Try.underlying79) (z := NOR) (Try.zeroValue40 _) (hdrE_mk none 0 0) (keyI_of ht)
  obtain ⟨e, p, n, c, hs⟩ := hdrE_inv hv
  have e1 : DataW.held v = DataW.held (m t) := by
    rw [← hat t]; exact (congrArg Prod.fst e).symm
  have e2 : v = m t := DataW.held.inj e1
  subst e2
  exact ⟨hr, p, n, c, hs⟩
theorem MapS.no {W : World} {b : Nat} {m : Int → Value} {ks : List Int} (h : MapS W b m ks) {t : Int} (ht : t ∉ ks) : m t = NOR := by
  obtain ⟨⟨D, hD, -, hat, hh⟩, -⟩ := h
  have h1 := Maps.atKey_of_not_has (D := D) (k := LI t) (by rw [hh]; simp [ht]) (.held NOR)
  rw [hat] at h1
  exact DataW.held.inj h1
def mset (m : Int → Value) (t : Int) (v : Value) : Int → Value := fun x => if x = t then v else m x
theorem mset_same (m : Int → Value) (t : Int) (v : Value) : mset m t v t = v := by simp [mset]
theorem mset_ne (m : Int → Value) {t x : Int} (v : Value) (h : x ≠ t) : mset m t v x = m x := by simp [mset, h]
def kset (ks : List Int) (t : Int) : List Int := if t ∈ ks then ks else t :: ks
theorem kset_mem {ks : List Int} {t x : Int} : x ∈ kset ks t ↔ x = t ∨ x ∈ ks := by
  unfold kset
  split
  · rename_i h
    constructor
    · exact .inr
    · rintro (e | e)
      · subst e; exact h
      · exact e
  · simp
theorem LI_ne {x t : Int} (h : x ≠ t) : LI x ≠ LI t := fun e => h (by cases e; rfl)
theorem keyLI (t : Int) (ht : -9223372036854775808 ≤ t ∧ t ≤ 9223372036854775807) : WideAt.IsKeyLit (LI t) := keyI.key (keyI_of ht)
theorem tight {W : World} {b n : Nat} {D : DataW Value} (h : W.ownsMap Try.prog 3 hdrE b n D) : W.ownsMap Try.prog 3 hdrE b (Maps.size D) D := by
  obtain ⟨es, clock, hb, F, hs, rfl⟩ := h
  refine ⟨es, clock, hb, F, ?_, rfl⟩
  simp [Maps.size, length_sorted]
theorem mapTurned_fr {W W' : World} {b : Nat} (h : W.mapTurned W' b) : Fr (fun q => q = b) W W' :=
  (grownBy_fr h.grown).mono (fun k hk => by cases hk; rfl)
theorem MapS.store {W : World} {b : Nat} {m : Int → Value} {ks : List Int} (h : MapS W b m ks) {t : Int} (ht : -9223372036854775808 ≤ t ∧ t ≤ 9223372036854775807) (hn : ks.length < maxLen) (p : Option Addr) (n c : Nat) :
    ∃ W', (Instr.mapUpdate 79 (.map (some b)) (.int .i64 t) (.slice p n c)).run Try.prog W = .ok () W' ∧ MapS W' b (mset m t (.slice p n c)) (kset ks t) ∧ Fr (fun q => q = b) W W' := by
  obtain ⟨⟨D, hD, hsz, hat, hh⟩, hnd⟩ := h
  obtain ⟨W', hr, ho, hm⟩ := hD.store keyI (show Try.prog.underlying 79 = some (.map 3 40) from Try.underlying79) hn (keyI_of ht) (hdrE_mk p n c)
  have hs2 := Maps.size_put (hD.tidy keyI) (k := LI t) (.held (.slice p n c))
  have hs3 : Maps.size (D.put (LI t) (.held (.slice p n c))) = (kset ks t).length := by
    rw [hs2, hh, hsz]
    unfold kset
    by_cases hk : t ∈ ks
    · simp [hk]
    · simp [hk]
  refine ⟨W', hr, ⟨⟨_, by rw [← hs3]; exact tight ho, hs3, fun x => ?_, fun x => ?_⟩, ?_⟩, mapTurned_fr hm⟩
  · by_cases hx : x = t
    · subst hx
      rw [mset_same, Maps.atKey_put_same hD.isMap (keyLI x ht)]
    · rw [mset_ne _ _ hx, Maps.atKey_put_other (LI_ne hx), hat]
  · by_cases hx : x = t
    · subst hx
      rw [Maps.has_put_same hD.isMap (keyLI x ht)]
      simp [kset_mem]
    · rw [Maps.has_put_other (LI_ne hx), hh]
      simp [kset_mem, hx]
  · unfold kset
    split
    · exact hnd
    · rename_i hk
      exact List.nodup_cons.2 ⟨hk, hnd⟩
theorem MapS.drop {W : World} {b : Nat} {m : Int → Value} {ks : List Int} (h : MapS W b m ks) {t : Int} (ht : -9223372036854775808 ≤ t ∧ t ≤ 9223372036854775807) (ty : TypeId) :
    ∃ W', (Builtin.delete_ #[79, 3] ty #[.map (some b), .int .i64 t]).run Try.prog W = .ok (.tuple #[]) W' ∧ MapS W' b (mset m t NOR) (ks.erase t) ∧ Fr (fun q => q = b) W W' := by
  obtain ⟨⟨D, hD, hsz, hat, hh⟩, hnd⟩ := h
  obtain ⟨W', hr, ho, hm⟩ := hD.drop keyI (show Try.prog.underlying 79 = some (.map 3 40) from Try.underlying79) (keyI_of ht) ty
  have hs2 := Maps.size_del (hD.tidy keyI) (k := LI t)
  have hs3 : Maps.size (D.del (LI t)) = (ks.erase t).length := by
    rw [hh] at hs2
    by_cases hk : t ∈ ks
    · rw [List.length_erase_of_mem hk]
      simp [hk] at hs2
      omega
    · rw [List.erase_of_not_mem hk]
      simp [hk] at hs2
      omega
  refine ⟨W', hr, ⟨⟨_, by rw [← hs3]; exact tight ho, hs3, fun x => ?_, fun x => ?_⟩, hnd.erase t⟩, mapTurned_fr hm⟩
  · by_cases hx : x = t
    · subst hx
      rw [mset_same, Maps.atKey_del_same]
    · rw [mset_ne _ _ hx, Maps.atKey_del_other (LI_ne hx), hat]
  · by_cases hx : x = t
    · subst hx
      rw [Maps.has_del_same]
      simp [hnd.mem_erase_iff]
    · rw [Maps.has_del_other (LI_ne hx), hh]
      simp [hnd.mem_erase_iff, hx]
theorem MapS.keys {W : World} {b : Nat} {m : Int → Value} {ks : List Int} (h : MapS W b m ks) : ∀ t ∈ ks, -9223372036854775808 ≤ t ∧ t ≤ 9223372036854775807 := by
  obtain ⟨⟨D, hD, -, -, hh⟩, -⟩ := h
  intro t ht
  obtain ⟨es, clock, hb, F, hs, rfl⟩ := hD
  have h1 := hh t
  rw [decide_eq_true ht] at h1
  obtain ⟨p, hp, hpk⟩ := List.any_eq_true.1 h1
  have hk := Go.Maps.keys_perm (WideShapes.sorted_perm _).symm (Go.Maps.fit_keys F) p hp
  obtain ⟨v, hv⟩ := hk
  have e := WideAt.sameKey_eq hpk
  rw [e] at hv
  obtain ⟨x, rfl, e2, hw⟩ := Maps.keyOf_int_inv Try.underlying3 hv
  cases e2
  exact wfI_inv hw
/-- 'for t, l := range m' under way, the map as it stands: those that have come -/
def Rng (W : World) (b r : Nat) (m : Int → Value) (ks seen : List Int) (cnt : Nat) : Prop :=
  ∃ (D : DataW Value) (left : Lit → Bool), W.ranges Try.prog 3 hdrE b r ks.length D left cnt ∧ (∀ t, left (LI t) = decide (t ∈ ks ∧ t ∉ seen)) ∧ (∀ t, D.atKey (LI t) (.held NOR) = .held (m t)) ∧ seen.Nodup ∧ ∀ t ∈ seen, t ∈ ks
theorem MapS.range {W : World} {b : Nat} {m : Int → Value} {ks : List Int} (h : MapS W b m ks) :
    ∃ W', (Instr.range 79 (.map (some b))).run Try.prog W = .ok (.pointer (some ⟨W.heap.size, 0, none⟩)) W' ∧ Rng W' b W.heap.size m ks [] ks.length ∧ G W W' ∧ W'.heap.size = W.heap.size + 1 := by
  obtain ⟨⟨D, hD, hsz, hat, hh⟩, hnd⟩ := h
  obtain ⟨W', hr, h1, h2, h3⟩ := hD.range keyI (show Try.prog.underlying 79 = some (.map 3 40) from Try.underlying79)
  rw [hsz] at h1
  exact ⟨W', hr, ⟨D, _, h1, fun t => by rw [hh]; simp, hat, List.nodup_nil, fun t h => by cases h⟩, (G.refl W).grown h2 (fun k hk => by cases hk), h3⟩
theorem Rng.next {W : World} {b r : Nat} {m : Int → Value} {ks seen : List Int} {cnt : Nat} (h : Rng W b r m ks seen cnt) (ty : TypeId) :
    (cnt = 0 ∧ (∀ t ∈ ks, t ∈ seen) ∧ (Instr.next (.pointer (some ⟨r, 0, none⟩)) false ty).run Try.prog W = .ok (.tuple #[.bool false]) W) ∨
    ∃ t W' cnt', t ∈ ks ∧ t ∉ seen ∧ (Instr.next (.pointer (some ⟨r, 0, none⟩)) false ty).run Try.prog W = .ok (.tuple #[.bool true, .int .i64 t, m t]) W' ∧ (∃ p n c, m t = .slice p n c) ∧ Rng W' b r m ks (seen ++ [t]) cnt' ∧ cnt' < cnt ∧ Fr (fun q => q = r) W W' ∧
      (Instr.entry (.pointer (some ⟨r, 0, none⟩))).run Try.prog W' = .ok (.tuple #[.int .i64 t, m t]) W' := by
  obtain ⟨D, left, hr, hl, hat, hnd, hsub⟩ := h
  rcases hr.next keyI ty with ⟨h0, h1, h2⟩ | ⟨key, v, kl, y, W', cnt', hkey, hlk, hv, hatk, hrun, hrg, hlt, hgr, hsz, hen⟩
  · refine .inl ⟨h0, fun t ht => ?_, h2⟩
    have := h1 (LI t)
    rw [hl] at this
    simp [ht] at this
    exact this
  · obtain ⟨t, rfl, rfl, hw⟩ := Maps.keyOf_int_inv Try.underlying3 hkey
    obtain ⟨e, p, n, c, hs⟩ := hdrE_inv hv
    have ht := hl t
    have hlk' : left (LI t) = true := hlk
    rw [hlk'] at ht
    have ht2 : t ∈ ks ∧ t ∉ seen := by simpa using ht.symm
    have e1 : m t = v := by
      have a1 := hat t
      have a2 := hatk (.held NOR)
      rw [e] at a2
      have a3 : D.atKey (LI t) (.held NOR) = .held v := a2
      rw [a1] at a3
      cases a3; rfl
    rw [← e1] at hs hrun hen
    refine .inr ⟨t, W', cnt', ht2.1, ht2.2, hrun, ⟨p, n, c, hs⟩, ⟨D, _, hrg, fun x => ?_, hat, ?_, ?_⟩, hlt, (grownBy_fr hgr).mono (fun k hk => by cases hk; rfl), hen⟩
    · show (left (LI x) && !(LI x).sameKey (LI t)) = _
      rw [hl]
      by_cases hx : x = t
      · subst hx
        rw [WideAt.sameKey_self (keyI.key hkey)]
        simp
      · rw [Maps.sameKey_ne (LI_ne hx)]
        simp [hx]
    · exact List.nodup_append.2 ⟨hnd, by simp, fun a ha c hc => by simp at hc; subst hc; intro e; subst e; exact ht2.2 ha⟩
    · intro x hx
      rcases List.mem_append.1 hx with h | h
      · exact hsub x h
      · simp at h; subst h; exact ht2.1
theorem Rng.fr {S : Nat → Prop} {W W' : World} {b r : Nat} {m : Int → Value} {ks seen : List Int} {cnt : Nat} (h : Rng W b r m ks seen cnt) (hf : Fr S W W') (hb : ¬ S b) (hr : ¬ S r) : Rng W' b r m ks seen cnt := by
  obtain ⟨D, left, hg, rest⟩ := h
  have h1 := hg.owns.lt
  have h2 := hg.lt
  obtain ⟨es, clock, since, sn, c0, a1, a2, a3, a4, a5, a6⟩ := hg
  exact ⟨D, left, ⟨es, clock, since, sn, c0, (hf.block b h1 hb).trans a1, a2, a3, a4, (hf.block r h2 hr).trans a5, a6⟩, rest⟩
theorem Rng.left_eq {W : World} {b r : Nat} {m : Int → Value} {ks seen : List Int} {cnt : Nat} (h : Rng W b r m ks seen cnt) : W.rangeLeft b r = cnt := by
  obtain ⟨D, left, hg, rest⟩ := h; exact hg.left_eq
theorem Rng.lt {W : World} {b r : Nat} {m : Int → Value} {ks seen : List Int} {cnt : Nat} (h : Rng W b r m ks seen cnt) : r < W.heap.size ∧ b < W.heap.size ∧ r ≠ b := by
  obtain ⟨D, left, hg, rest⟩ := h; exact ⟨hg.lt, hg.owns.lt, hg.ne⟩
theorem nodup_perm {ks seen : List Int} (h : ks.Nodup) (h2 : seen.Nodup) (h3 : ∀ t ∈ seen, t ∈ ks) (h4 : ∀ t ∈ ks, t ∈ seen) : seen.Perm ks :=
  (List.perm_ext_iff_of_nodup h2 h).2 (fun t => ⟨h3 t, h4 t⟩)
theorem Rng.done {W : World} {b r : Nat} {m : Int → Value} {ks seen : List Int} {cnt : Nat} (h : Rng W b r m ks seen cnt) (hk : ks.Nodup) (h4 : ∀ t ∈ ks, t ∈ seen) : seen.Perm ks := by
  obtain ⟨D, left, hg, -, -, h2, h3⟩ := h
  exact nodup_perm hk h2 h3 h4
end Go.Proofs.Ythhmmjpgefinmaa
