/- closes, one behind the other -/
import Derived.Test.YthhjioehkgbphaaDiffN
namespace Go.Proofs.Ythhjioehkgbphaa
set_option linter.unusedVariables false
set_option linter.unusedSimpArgs false
open Go.RowKit Go.Shelf
attribute [local go_sem] Oper.semAt_some

/-- a close: its slices, what they read as -/
structure Clo where
  vp : Value
  vm : Value
  ps : List (List Val)
  ms : List (List Val)
def Clo.cells (c : Clo) : List Value := [.int .i64 0, .int .i64 0, c.vp, c.vm]
def ccells : List Clo → List Value
  | [] => []
  | c :: cs => .int .i64 0 :: .int .i64 0 :: c.vp :: c.vm :: ccells cs
theorem ccells_len : ∀ cs : List Clo, (ccells cs).length = cs.length * 4
  | [] => rfl
  | c :: cs => by simp only [ccells, List.length_cons, ccells_len cs]; omega
theorem ccells_app : ∀ cs ds : List Clo, ccells (cs ++ ds) = ccells cs ++ ccells ds
  | [], ds => rfl
  | c :: cs, ds => by simp only [ccells, List.cons_append, ccells_app cs ds]
theorem ccells_get : ∀ {cs : List Clo} {k : Nat} {c : Clo}, cs[k]? = some c → (ccells cs)[k * 4]? = some (.int .i64 0) ∧ (ccells cs)[k * 4 + 1]? = some (.int .i64 0) ∧ (ccells cs)[k * 4 + 2]? = some c.vp ∧ (ccells cs)[k * 4 + 3]? = some c.vm
  | d :: cs, 0, c, h => by cases h; exact ⟨rfl, rfl, rfl, rfl⟩
  | d :: cs, k + 1, c, h => by
    have h' : cs[k]? = some c := by simpa using h
    obtain ⟨a, b, e, f⟩ := ccells_get h'
    rw [show (k + 1) * 4 = k * 4 + 4 by omega]
    exact ⟨by simpa [ccells] using a, by simpa [ccells] using b, by simpa [ccells] using e, by simpa [ccells] using f⟩
/-- a close leads from rows to rows -/
structure Step (W : World) (xs : List (List Val)) (c : Clo) (ys : List (List Val)) : Prop where
  p : RowsIn W c.vp c.ps
  m : RowsIn W c.vm c.ms
  okx : RowsOK xs
  rx : rgt none xs = true
  rp : rgt none c.ps = true
  rm : rgt none c.ms = true
  f1 : ∀ x ∈ mrgR xs c.ps, (x.2.1 && x.2.2) = false
  f2 : ∀ x ∈ mrgR xs c.ms, x.2.1 = true
  okl : RowsOK (lft (mrgR xs c.ms))
  fold : uni (mrgR (lft (mrgR xs c.ms)) c.ps) = ys
def Chain (W : World) : List (List Val) → List Clo → List (List Val) → Prop
  | xs, [], ys => xs = ys
  | xs, c :: cs, ys => ∃ zs, Step W xs c zs ∧ Chain W zs cs ys
theorem Step.g {W W' : World} {xs ys : List (List Val)} {c : Clo} (h : Step W xs c ys) (hg : G W W') : Step W' xs c ys := ⟨h.p.g hg, h.m.g hg, h.okx, h.rx, h.rp, h.rm, h.f1, h.f2, h.okl, h.fold⟩
theorem Chain.g {W W' : World} (hg : G W W') : ∀ {cs : List Clo} {xs ys : List (List Val)}, Chain W xs cs ys → Chain W' xs cs ys
  | [], _, _, h => h
  | c :: cs, xs, ys, ⟨zs, h1, h2⟩ => ⟨zs, h1.g hg, h2.g hg⟩
theorem Chain.app {W : World} : ∀ {cs ds : List Clo} {xs ys zs : List (List Val)}, Chain W xs cs ys → Chain W ys ds zs → Chain W xs (cs ++ ds) zs
  | [], _, _, _, _, h, k => by cases h; exact k
  | c :: cs, ds, xs, ys, zs, ⟨ws, h1, h2⟩, k => ⟨ws, h1, h2.app k⟩
theorem fold_step (xs ys : List (List Val)) (c : Clo) (va : Value) (w : World) (ha : RdrRV w va xs) (hc : ∀ p n c, va = .slice p n c → n ≤ c) (h : Step w xs c ys) :
    Calls Try.prog 14 #[va, .agg #[.int .i64 0, .int .i64 0, c.vp, c.vm]] w fun e w' => ∃ u, e = .returned (.tuple #[u, .int .i64 0]) ∧ OwnRV w.heap.size w' u ys ∧ G w w' := by
  have := fold_ok xs c.ps c.ms va c.vp c.vm 0 0 w ⟨ha, hc, h.okx⟩ h.p h.m h.rx h.rp h.rm h.f1 h.f2 h.okl
  rwa [h.fold] at this
theorem OwnRV.caps {base : Nat} {W : World} {v : Value} {ls : List (List Val)} (h : OwnRV base W v ls) : ∀ p n c, v = .slice p n c → n ≤ c := by
  obtain ⟨rv, h1, -⟩ := h
  rintro p n c rfl
  rcases h1.2 with ⟨h, -⟩ | ⟨g, cap, cur, h, _, _, h2, _⟩
  · cases h; exact Nat.le_refl _
  · cases h; exact h2
set_option maxHeartbeats 1000000 in
theorem all_ok (cs : List Clo) (v : Value) (w : World) (ys : List (List Val)) (hv : Rdr w 4 v cs.length (ccells cs)) (hn : cs.length ≤ 1000) (hc : Chain w [] cs ys) :
    Calls Try.prog 12 #[v] w fun e w' => ∃ u, e = .returned (.tuple #[u, .int .i64 0]) ∧ OwnRV w.heap.size w' u ys ∧ G w w' := by
  obtain ⟨n, hnn⟩ : ∃ n, n = cs.length := ⟨_, rfl⟩
  rw [← hnn] at hv hn
  have HN := Lib.hid hnn
  have hv2 := hv
  obtain ⟨hll, p, c, rfl, hcc⟩ := hv2
  have HV := Lib.hid hv
  have HC := Lib.hid hc
  clear hnn hv hc hll hcc
  go_enter Try.func12, Try.ntmps12
  go_wp2_with fail
  go_loopw [2, 8] (fun rows i wr => ∃ (k : Nat) (zs : List (List Val)), k ≤ n ∧ i = .int .i64 k ∧ OwnRV w.heap.size wr rows zs ∧ Hid (Chain w zs (cs.drop k) ys) ∧ G w wr) (fun _ i _ => n - (intOf i).toNat)
  case atStart => exact ⟨0, [], by omega, rfl, OwnRV.nil _ _, (HC.out : Chain w [] (cs.drop 0) ys), G.refl w⟩
  case round =>
    obtain ⟨k, zs, hk, rfl, hown, HCH, hg⟩ := hrel
    obtain ⟨rp, rc, hrv⟩ := hown.rdr.shape
    subst hrv
    have HOWN := Lib.hid hown
    clear hown
    by_cases hlt : k < n
    · obtain ⟨b, o, rfl, hcell⟩ := HV.out.one (by omega)
      obtain ⟨d, hd⟩ : ∃ d, cs[k]? = some d := ⟨cs[k]'(by have := HN.out; omega), List.getElem?_eq_getElem _⟩
      obtain ⟨g0, g1, g2, g3⟩ := ccells_get hd
      have e0 := hg.cell (hcell _ _ g0)
      have e1 := hg.cell (hcell _ _ g1)
      have e2 := hg.cell (hcell _ _ g2)
      have e3 := hg.cell (hcell _ _ g3)
      simp only [← Nat.add_assoc] at e1 e2 e3
      obtain ⟨xs', hst, hch⟩ : ∃ xs', Step w zs d xs' ∧ Chain w xs' (cs.drop (k + 1)) ys := by
        have h1 := HCH.out
        obtain ⟨h2, h3⟩ := List.getElem?_eq_some_iff.1 hd
        rw [List.drop_eq_getElem_cons h2, h3] at h1
        exact h1
      obtain ⟨pp, pc, hpv, -⟩ := hst.p.shape
      obtain ⟨mp, mc, hmv, -⟩ := hst.m.shape
      rw [hpv] at e2
      rw [hmv] at e3
      have HF := Lib.hid (fun W (hgW : G wr W) => fold_step zs xs' d (.slice rp zs.length rc) W (HOWN.out.rdr.g hgW) HOWN.out.caps (hst.g (hg.trans hgW)))
      rw [hpv, hmv] at HF
      have HCH2 := Lib.hid hch
      clear hcell hd g0 g1 g2 g3 hst hch hpv hmv
      go_wp2_with fail
      refine (HF.out _ (G.alloc (G.refl wr) _)).mono ?_
      rintro e w2 ⟨u, rfl, hu, hg2⟩
      have hg3 : G w w2 := (hg.alloc _).trans hg2
      have hsz := hg.size
      have hu2 : OwnRV w.heap.size w2 u xs' := by
        obtain ⟨rv, h1, h2⟩ := hu
        refine ⟨rv, ownsRow_mono h1 (by simp; omega), fun i l hl => ?_⟩
        obtain ⟨x, a, b, c⟩ := h2 i l hl
        exact ⟨x, a, b, fun g hg => ⟨by have := (c g hg).1; simp at this; omega, (c g hg).2⟩⟩
      have HU := Lib.hid hu2
      obtain ⟨up, uc, hue⟩ := hu2.rdr.shape
      subst hue
      clear hu hu2 hg2
      go_wp2_with fail
      go_roundw
      case rel => exact ⟨k + 1, xs', by omega, by go_num, HU.out, HCH2, hg3⟩
      case measure => simp [intOf]; omega
    · have hz := HCH.out
      rw [List.drop_of_length_le (by have := HN.out; omega)] at hz
      have HZ : Hid (zs = ys) := Lib.hid hz
      clear hz
      go_wp2_with fail
      go_ret2
      exact ⟨_, rfl, by rw [← HZ.out]; exact HOWN.out, hg⟩
end Go.Proofs.Ythhjioehkgbphaa
