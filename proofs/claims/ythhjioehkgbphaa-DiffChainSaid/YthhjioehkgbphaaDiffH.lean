/- two rows of rows, side by side -/
import Derived.Test.YthhjioehkgbphaaDiffG
namespace Go.Proofs.Ythhjioehkgbphaa
set_option linter.unusedVariables false
set_option linter.unusedSimpArgs false
open Go.RowKit Go.Shelf
attribute [local go_sem] Oper.semAt_some

/-- a row: its slice, and what it reads as -/
abbrev El := Value × List Val
/-- side by side: the row, whether it stands in the first rows, in the second ones -/
def mrg : List El → List El → List (El × Bool × Bool)
  | [], [] => []
  | [], b :: bs => (b, false, true) :: mrg [] bs
  | a :: as', [] => (a, true, false) :: mrg as' []
  | a :: as', b :: bs => if rcmp a.2 b.2 < 0 then (a, true, false) :: mrg as' (b :: bs) else if rcmp a.2 b.2 = 0 then (a, true, true) :: mrg as' bs else (b, false, true) :: mrg (a :: as') bs
  termination_by as' bs => as'.length + bs.length
/-- the slice v has these rows -/
def RdrE (W : World) (v : Value) (es : List El) : Prop :=
  (∃ p c, v = .slice p es.length c ∧ es.length ≤ c ∧ (0 < es.length → ∃ b o, p = some ⟨b, o, none⟩ ∧ ∀ i e, es[i]? = some e → W.cell? ⟨b, o + i, none⟩ = some e.1)) ∧ ∀ e ∈ es, RdrV W e.1 e.2
theorem RdrE.g {W W' : World} {v : Value} {es : List El} (h : RdrE W v es) (hg : G W W') : RdrE W' v es := by
  obtain ⟨⟨p, c, h1, h2, h3⟩, h4⟩ := h
  refine ⟨⟨p, c, h1, h2, fun h0 => ?_⟩, fun e he => (h4 e he).g hg⟩
  obtain ⟨b, o, h5, h6⟩ := h3 h0
  exact ⟨b, o, h5, fun i e he => hg.cell (h6 i e he)⟩
theorem beside_any (va vb : Value) (p q : Option Addr) (n c m d : Nat) (hva : va = .slice p n c) (hvb : vb = .slice q m d) (w : World) : Calls Try.prog 22 #[va, vb] w fun e w' =>
    e = .returned (.func (.func 32) #[] #[.pointer (some ⟨w.heap.size, 0, none⟩), .pointer (some ⟨w.heap.size + 1, 0, none⟩)]) ∧ w' = (w.alloc (.cells #[va] 25)).alloc (.cells #[vb] 25) := by
  subst hva hvb
  go_enter Try.func22, Try.ntmps22
  go_wp2
  go_ret
  exact ⟨rfl, rfl⟩
def encE (x : El × Bool × Bool) : Array Value := #[x.1.1, .agg #[.bool x.2.1, .bool x.2.2]]
/-- a row ahead -/
theorem RdrE.uncons {W : World} {p : Option Addr} {n c : Nat} {x : El} {es : List El} (h : RdrE W (.slice p n c) (x :: es)) : ∃ b o, p = some ⟨b, o, none⟩ ∧ n = es.length + 1 ∧ n ≤ c ∧ W.cell? ⟨b, o, none⟩ = some x.1 ∧ RdrV W x.1 x.2 ∧
    RdrE W (.slice (if c = 1 then some ⟨b, o, none⟩ else some ⟨b, o + 1, none⟩) es.length (c - 1)) es := by
  obtain ⟨⟨p', c', h1, h2, h3⟩, h4⟩ := h
  cases h1
  obtain ⟨b, o, rfl, h6⟩ := h3 (by simp)
  simp only [List.length_cons] at h2
  refine ⟨b, o, rfl, rfl, h2, h6 0 x rfl, h4 x (by simp), ⟨⟨_, _, rfl, by omega, fun h0 => ⟨b, o + 1, by rw [if_neg (by omega)], fun i e he => ?_⟩⟩, fun e he => h4 e (by simp [he])⟩⟩
  have := h6 (i + 1) e (by simpa using he)
  rwa [show o + 1 + i = o + (i + 1) by omega]

/-- no row of these lies in block X -/
def NoX (X : Nat) (v : Value) (es : List El) : Prop := (0 < es.length → v.ownBlock ≠ some X) ∧ ∀ e ∈ es, 0 < e.2.length → e.1.ownBlock ≠ some X
theorem NoX.uncons {X b o n c : Nat} {x : El} {es : List El} (h : NoX X (.slice (some ⟨b, o, none⟩) n c) (x :: es)) : b ≠ X ∧ (0 < x.2.length → x.1.ownBlock ≠ some X) ∧ NoX X (.slice (if c = 1 then some ⟨b, o, none⟩ else some ⟨b, o + 1, none⟩) es.length (c - 1)) es := by
  have hb : b ≠ X := fun e => h.1 (by simp) (by rw [e]; rfl)
  refine ⟨hb, h.2 x (by simp), fun _ => ?_, fun e he => h.2 e (by simp [he])⟩
  split <;> (intro e; exact hb (Option.some.inj e))
theorem RdrV.fr0 {S : Nat → Prop} {W W' : World} {v : Value} {l : List Val} (h : RdrV W v l) (hf : Fr S W W') (hs : 0 < l.length → ∀ g, v.ownBlock = some g → ¬ S g) : RdrV W' v l := by
  obtain ⟨h1, p, c, rfl, h2⟩ := h
  refine ⟨h1, p, c, rfl, fun hn => ?_⟩
  obtain ⟨b, o, rfl, hc⟩ := h2 hn
  exact ⟨b, o, rfl, fun j u hu => hf.cell (hs hn b rfl) (hc j u hu)⟩
theorem frx {X : Nat} {a b c : World} (h : Fr (fun k => k = X) a b) (k : G b c) : Fr (fun k => k = X) a c := h.trans (k.fr _) (fun _ _ h => h)
def boxLen (W : World) (B : Nat) : Nat := match W.cell? ⟨B, 0, none⟩ with | some (.slice _ n _) => n | _ => 0
theorem boxLen_of {W : World} {B n c : Nat} {t : TypeId} {p : Option Addr} (h : Boxed W B t (.slice p n c)) : boxLen W B = n := by unfold boxLen; rw [h.cell]
set_option maxHeartbeats 1000000 in
theorem beside_seq (w0 : World) (X ba bb : Nat) (as' bs : List El) (va vb : Value) (w : World) (h0 : G w0 w) (ha : RdrE w0 va as') (hb : RdrE w0 vb bs) (hba : Boxed w ba 25 va) (hbb : Boxed w bb 25 vb) (hne : ba ≠ bb)
    (hla : as'.length ≤ 1000000) (hlb : bs.length ≤ 1000000) (hra : ∀ e ∈ as', e.2.length ≤ 1099511627776) (hrb : ∀ e ∈ bs, e.2.length ≤ 1099511627776) (hb0 : w0.heap.size ≤ ba) (hb1 : w0.heap.size ≤ bb) (hXa : NoX X va as') (hXb : NoX X vb bs) :
    Seq Try.prog 32 #[.pointer (some ⟨ba, 0, none⟩), .pointer (some ⟨bb, 0, none⟩)] encE
      (fun k => k < w0.heap.size ∧ k ≠ X) (fun k => k = ba ∨ k = bb) (fun xs _ _ => xs = mrg as' bs) (fun pre _ _ => pre <+: mrg as' bs) (fun pre x => pre ++ [x] <+: mrg as' bs) w := by
  intro l J Jx W hW hJ hJx hY hj0
  have HY := Lib.hid hY
  have HJ := Lib.hid hJ
  have HA0 := Lib.hid ha
  have HB0 := Lib.hid hb
  have HRA := Lib.hid hra
  have HRB := Lib.hid hrb
  have hla' := hba.lt
  have hlb' := hbb.lt
  have hWs := hW.size
  have h0W := h0.trans hW
  replace hba := hW.boxed hba
  replace hbb := hW.boxed hbb
  have HNA0 := Lib.hid hXa
  have HNB0 := Lib.hid hXb
  clear hY hJ hJx ha hb hra hrb hXa hXb
  show Calls Try.prog 32 #[.func (.yield l) #[] #[], .pointer (some ⟨ba, 0, none⟩), .pointer (some ⟨bb, 0, none⟩)] W _
  go_enter Try.func32, Try.ntmps32
  go_wp2_with fail
  go_loopw [4] (fun _ wr => ∃ (pre : List (El × Bool × Bool)) (xs ys : List El) (va vb : Value), Hid (mrg as' bs = pre ++ mrg xs ys) ∧ Boxed wr ba 25 va ∧ Boxed wr bb 25 vb ∧ Hid (RdrE w0 va xs) ∧ Hid (RdrE w0 vb ys) ∧ Hid (NoX X va xs) ∧ Hid (NoX X vb ys) ∧
    Hid (∀ e ∈ xs, e.2.length ≤ 1099511627776) ∧ Hid (∀ e ∈ ys, e.2.length ≤ 1099511627776) ∧ xs.length ≤ 1000000 ∧ ys.length ≤ 1000000 ∧ J pre (fun k => k = ba ∨ k = bb) wr ∧ Fr (fun k => k = X) w0 wr ∧ W.heap.size ≤ wr.heap.size) (fun _ wr => boxLen wr ba + boxLen wr bb)
  case atStart => exact ⟨[], as', bs, va, vb, (rfl : mrg as' bs = [] ++ mrg as' bs), hba, hbb, HA0, HB0, HNA0, HNB0, HRA, HRB, hla, hlb, hj0, h0W.fr _, Nat.le_refl _⟩
  case round =>
    clear hba hbb hj0
    obtain ⟨pre, xs, ys, va', vb', HM, hba, hbb, HA, HB, HNA, HNB, HLA, HLB, hlx, hly, hj, hg, hsz⟩ := hrel
    obtain ⟨⟨pa, ca, rfl, hca, -⟩, -⟩ := HA.out
    obtain ⟨⟨pb, cb, rfl, hcb, -⟩, -⟩ := HB.out
    have cA := hba.cell
    have cB := hbb.cell
    have fA := hba.frozen
    have fB := hbb.frozen
    have HBA := Lib.hid hba
    have HBB := Lib.hid hbb
    cases xs with
    | nil =>
      cases ys with
      | nil =>
        have HE := Lib.hid (show pre = mrg as' bs by rw [HM.out, mrg]; simp)
        simp only [List.length_nil] at cA cB
        go_wp2_with fail
        go_returns
        exact ⟨⟨_, rfl⟩, fun k => k = ba ∨ k = bb, fun _ h => h, fun k hk => .inl hk, .inl ⟨_, hj, HE.out⟩⟩
      | cons y ys' =>
        obtain ⟨b, o, rfl, hn, hnc, hcx, hrx, hrest⟩ := HB.out.uncons
        obtain ⟨xv, xl⟩ := y
        obtain ⟨xp, xc, hxv⟩ := hrx.shape
        simp only at hxv hrx hcx
        subst hxv
        obtain ⟨hbX, -, hnrest⟩ := HNB.out.uncons
        have HNREST := Lib.hid hnrest
        clear hnrest
        have cX := hg.cell (p := ⟨b, o, none⟩) hbX hcx
        have HRX := Lib.hid hrx
        have HREST := Lib.hid hrest
        simp only [List.length_nil, List.length_cons] at cB cA HBB HBA hly hcb
        clear hcx hrx hrest hbb hba
        have lb := World.block_lt_of_cell? wr _ cX
        have lbb := World.block_lt_of_cell? wr _ cB
        have hW1 : G wr (wr.alloc (.cells #[.bool false, .bool true] 55)) := (G.refl wr).alloc _
        go_upto_region 7 with fail
        have cB1 := hW1.cell cB
        have cX1 := hW1.cell cX
        have hc1 : (1 : Int) ≤ (ys'.length : Int) + 1 := by omega
        have hc2 : (ys'.length : Int) + 1 ≤ (cb : Int) := by omega
        refine region_hl (fun w' => G (wr.alloc (.cells #[.bool false, .bool true] 55)) w') 6 7 (by kernel_rfl) rfl ?_
        simp only [List.replicate_succ, List.replicate_zero]
        have hs0 : (fun w' => G (wr.alloc (.cells #[.bool false, .bool true] 55)) w') (wr.alloc (.cells #[.bool false, .bool true] 55)).drew := (G.refl _).drew
        refine hl_take_np 0 (by kernel_rfl) (by kernel_rfl) rfl (by kernel_rfl) hs0 (v := ?_) ?_ ?_
        rotate_left
        · (rintro x hx; have k1 := hx.cell cB1; have k2 := hx.cell cX1; clear hx; go_simp; try rfl)
        simp only [Act.put, List.setIfInBounds_toArray, List.set_cons_zero, List.set_cons_succ]
        refine hl_take_np 1 (by kernel_rfl) (by kernel_rfl) rfl (by kernel_rfl) hs0 (v := ?_) ?_ ?_
        rotate_left
        · (rintro x hx; have k1 := hx.cell cB1; have k2 := hx.cell cX1; clear hx; go_simp; try rfl)
        simp only [Act.put, List.setIfInBounds_toArray, List.set_cons_zero, List.set_cons_succ]
        refine hl_take_np 2 (by kernel_rfl) (by kernel_rfl) rfl (by kernel_rfl) hs0 (v := ?_) ?_ ?_
        rotate_left
        · (rintro x hx; have k1 := hx.cell cB1; have k2 := hx.cell cX1; clear hx; go_simp; try rfl)
        simp only [Act.put, List.setIfInBounds_toArray, List.set_cons_zero, List.set_cons_succ]
        refine hl_take_np 3 (by kernel_rfl) (by kernel_rfl) rfl (by kernel_rfl) hs0 (v := ?_) ?_ ?_
        rotate_left
        · (rintro x hx; have k1 := hx.cell cB1; have k2 := hx.cell cX1; clear hx; go_simp; try rfl)
        simp only [Act.put, List.setIfInBounds_toArray, List.set_cons_zero, List.set_cons_succ]
        refine hl_take_np 4 (by kernel_rfl) (by kernel_rfl) rfl (by kernel_rfl) hs0 (v := ?_) ?_ ?_
        rotate_left
        · (rintro x hx; have k1 := hx.cell cB1; have k2 := hx.cell cX1; clear hx; go_simp; try rfl)
        simp only [Act.put, List.setIfInBounds_toArray, List.set_cons_zero, List.set_cons_succ]
        refine hl_take_np 5 (by kernel_rfl) (by kernel_rfl) rfl (by kernel_rfl) hs0 (v := ?_) ?_ ?_
        rotate_left
        · (rintro x hx; have k1 := hx.cell cB1; have k2 := hx.cell cX1; clear hx; go_simp; try rfl)
        simp only [Act.put, List.setIfInBounds_toArray, List.set_cons_zero, List.set_cons_succ]
        generalize (if cb = 1 then some (⟨b, o, none⟩ : Addr) else some ⟨b, o + 1, none⟩) = pt at HREST HNREST ⊢
        refine hl_step 6 (by kernel_rfl) rfl ?_
        have fB1 := (hW1.frozen (p := ⟨bb, 0, none⟩) lbb).trans fB
        go_wp2_with fail
        refine hl_done (by kernel_rfl) ?_ _
        refine NoPanic.normal ?_
        have hF1 : Fr (fun k => k = ba ∨ k = bb) wr (((wr.setCell ⟨bb, 0, none⟩ (.slice pt ys'.length (cb - 1))).alloc (.cells #[.bool false, .bool true] 55)).drew) := (((Fr.refl _ wr).setCell (p := ⟨bb, 0, none⟩) (.inl (.inr rfl)) _).alloc _).drew
        have hj1 := HJ.out _ _ (fun k => k = ba ∨ k = bb) _ _ hj (fun _ h => h) (fun _ h => .inl h) hF1
        have hF1s := hF1.size
        have hBA1 : Boxed (((wr.setCell ⟨bb, 0, none⟩ (.slice pt ys'.length (cb - 1))).alloc (.cells #[.bool false, .bool true] 55)).drew) ba 25 (.slice pa 0 ca) := ((G.drew (G.refl _)).boxed ((boxed_other HBA.out hne).alloc _))
        have hBB1 : Boxed (((wr.setCell ⟨bb, 0, none⟩ (.slice pt ys'.length (cb - 1))).alloc (.cells #[.bool false, .bool true] 55)).drew) bb 25 (.slice pt ys'.length (cb - 1)) := ((G.drew (G.refl _)).boxed ((HBB.out.set _).alloc _))
        have hg1 : Fr (fun k => k = X) w0 (((wr.setCell ⟨bb, 0, none⟩ (.slice pt ys'.length (cb - 1))).alloc (.cells #[.bool false, .bool true] 55)).drew) := ((hg.setCell (p := ⟨bb, 0, none⟩) (.inr hb1) _).alloc _).drew
        have HPR := Lib.hid (show pre ++ [((.slice xp xl.length xc, xl), false, true)] ++ mrg [] ys' = mrg as' bs by rw [HM.out, mrg]; simp)
        obtain ⟨fn, tmps, assign, body, hy, hR⟩ := HY.out pre ((.slice xp xl.length xc, xl), false, true) (fun k => k = ba ∨ k = bb) (((wr.setCell ⟨bb, 0, none⟩ (.slice pt ys'.length (cb - 1))).alloc (.cells #[.bool false, .bool true] 55)).drew) (fun k hk => .inl hk) (fun k hk => hk.elim (fun h => by rw [h]; exact hBA1.lt) (fun h => by rw [h]; exact hBB1.lt)) (by omega) hj1 ⟨_, HPR.out⟩
        have HR := Lib.hid hR
        have HBA1 := Lib.hid hBA1
        have HBB1 := Lib.hid hBB1
        simp only [encE] at hy
        have HG1 := Lib.hid hg1
        clear hR hj1 hBA1 hBB1 hj hF1 hg1 hs0 hW1 cB1 cX1 fB1 cB cX
        go_upto_region 10 with fail
        refine (wpIn_wide (n := 3)).1 ?_
        gi_wp2
        refine HR.out.mono ?_
        rintro e W3 hrp
        rcases hrp.elim with ⟨rfl, hfr, hj3⟩ | ⟨rfl, hfr, hj3⟩
        · gi_wp2
          go_wp2_with fail
          go_roundw
          case rel =>
            have hsz3 := hfr.size
            exact ⟨_, [], ys', _, _, HPR.out.symm, hfr.boxed HBA1.out (fun h => h (.inl (.inl rfl))), hfr.boxed HBB1.out (fun h => h (.inl (.inr rfl))), HA, HREST, HNA, HNREST, HLA, (fun e he => HLB.out e (by simp [he]) : ∀ e ∈ ys', e.2.length ≤ 1099511627776), (by first | omega | simp), (by first | omega | simp), hj3,
              HG1.out.trans hfr (fun i hi h => by by_cases e : i = X; exact e; exact absurd (.inr ⟨hi, e⟩) h), by omega⟩
          case measure =>
            have m1 := boxLen_of (hfr.boxed HBA1.out (fun h => h (.inl (.inl rfl))))
            have m2 := boxLen_of (hfr.boxed HBB1.out (fun h => h (.inl (.inr rfl))))
            have m3 := boxLen_of HBA.out
            have m4 := boxLen_of HBB.out
            rw [m1, m2, m3, m4]
            try simp only [List.length_cons, List.length_nil]
            omega
        · gi_wp2
          go_wp2_with fail
          go_returns
          exact ⟨⟨_, rfl⟩, fun k => k = ba ∨ k = bb, fun _ h => h, fun k hk => .inl hk, .inr ⟨_, hj3, ⟨_, HPR.out⟩⟩⟩
    | cons x xs' =>
      cases ys with
      | nil =>
        obtain ⟨b, o, rfl, hn, hnc, hcx, hrx, hrest⟩ := HA.out.uncons
        obtain ⟨xv, xl⟩ := x
        obtain ⟨xp, xc, hxv⟩ := hrx.shape
        simp only at hxv hrx hcx
        subst hxv
        obtain ⟨hbX, -, hnrest⟩ := HNA.out.uncons
        have HNREST := Lib.hid hnrest
        clear hnrest
        have cX := hg.cell (p := ⟨b, o, none⟩) hbX hcx
        have HRX := Lib.hid hrx
        have HREST := Lib.hid hrest
        simp only [List.length_nil, List.length_cons] at cA cB HBA HBB hlx hca
        clear hcx hrx hrest hba hbb
        have lb := World.block_lt_of_cell? wr _ cX
        have lba := World.block_lt_of_cell? wr _ cA
        have hW1 : G wr (wr.alloc (.cells #[.bool true, .bool false] 55)) := (G.refl wr).alloc _
        go_upto_region 9 with fail
        have cA1 := hW1.cell cA
        have cX1 := hW1.cell cX
        have hc1 : (1 : Int) ≤ (xs'.length : Int) + 1 := by omega
        have hc2 : (xs'.length : Int) + 1 ≤ (ca : Int) := by omega
        refine region_hl (fun w' => G (wr.alloc (.cells #[.bool true, .bool false] 55)) w') 6 7 (by kernel_rfl) rfl ?_
        simp only [List.replicate_succ, List.replicate_zero]
        have hs0 : (fun w' => G (wr.alloc (.cells #[.bool true, .bool false] 55)) w') (wr.alloc (.cells #[.bool true, .bool false] 55)).drew := (G.refl _).drew
        refine hl_take_np 0 (by kernel_rfl) (by kernel_rfl) rfl (by kernel_rfl) hs0 (v := ?_) ?_ ?_
        rotate_left
        · (rintro x hx; have k1 := hx.cell cA1; have k2 := hx.cell cX1; clear hx; go_simp; try rfl)
        simp only [Act.put, List.setIfInBounds_toArray, List.set_cons_zero, List.set_cons_succ]
        refine hl_take_np 1 (by kernel_rfl) (by kernel_rfl) rfl (by kernel_rfl) hs0 (v := ?_) ?_ ?_
        rotate_left
        · (rintro x hx; have k1 := hx.cell cA1; have k2 := hx.cell cX1; clear hx; go_simp; try rfl)
        simp only [Act.put, List.setIfInBounds_toArray, List.set_cons_zero, List.set_cons_succ]
        refine hl_take_np 2 (by kernel_rfl) (by kernel_rfl) rfl (by kernel_rfl) hs0 (v := ?_) ?_ ?_
        rotate_left
        · (rintro x hx; have k1 := hx.cell cA1; have k2 := hx.cell cX1; clear hx; go_simp; try rfl)
        simp only [Act.put, List.setIfInBounds_toArray, List.set_cons_zero, List.set_cons_succ]
        refine hl_take_np 3 (by kernel_rfl) (by kernel_rfl) rfl (by kernel_rfl) hs0 (v := ?_) ?_ ?_
        rotate_left
        · (rintro x hx; have k1 := hx.cell cA1; have k2 := hx.cell cX1; clear hx; go_simp; try rfl)
        simp only [Act.put, List.setIfInBounds_toArray, List.set_cons_zero, List.set_cons_succ]
        refine hl_take_np 4 (by kernel_rfl) (by kernel_rfl) rfl (by kernel_rfl) hs0 (v := ?_) ?_ ?_
        rotate_left
        · (rintro x hx; have k1 := hx.cell cA1; have k2 := hx.cell cX1; clear hx; go_simp; try rfl)
        simp only [Act.put, List.setIfInBounds_toArray, List.set_cons_zero, List.set_cons_succ]
        refine hl_take_np 5 (by kernel_rfl) (by kernel_rfl) rfl (by kernel_rfl) hs0 (v := ?_) ?_ ?_
        rotate_left
        · (rintro x hx; have k1 := hx.cell cA1; have k2 := hx.cell cX1; clear hx; go_simp; try rfl)
        simp only [Act.put, List.setIfInBounds_toArray, List.set_cons_zero, List.set_cons_succ]
        generalize (if ca = 1 then some (⟨b, o, none⟩ : Addr) else some ⟨b, o + 1, none⟩) = pt at HREST HNREST ⊢
        refine hl_step 6 (by kernel_rfl) rfl ?_
        have fA1 := (hW1.frozen (p := ⟨ba, 0, none⟩) lba).trans fA
        go_wp2_with fail
        refine hl_done (by kernel_rfl) ?_ _
        refine NoPanic.normal ?_
        have hF1 : Fr (fun k => k = ba ∨ k = bb) wr (((wr.setCell ⟨ba, 0, none⟩ (.slice pt xs'.length (ca - 1))).alloc (.cells #[.bool true, .bool false] 55)).drew) := (((Fr.refl _ wr).setCell (p := ⟨ba, 0, none⟩) (.inl (.inl rfl)) _).alloc _).drew
        have hj1 := HJ.out _ _ (fun k => k = ba ∨ k = bb) _ _ hj (fun _ h => h) (fun _ h => .inl h) hF1
        have hF1s := hF1.size
        have hBA1 : Boxed (((wr.setCell ⟨ba, 0, none⟩ (.slice pt xs'.length (ca - 1))).alloc (.cells #[.bool true, .bool false] 55)).drew) ba 25 (.slice pt xs'.length (ca - 1)) := ((G.drew (G.refl _)).boxed ((HBA.out.set _).alloc _))
        have hBB1 : Boxed (((wr.setCell ⟨ba, 0, none⟩ (.slice pt xs'.length (ca - 1))).alloc (.cells #[.bool true, .bool false] 55)).drew) bb 25 (.slice pb 0 cb) := ((G.drew (G.refl _)).boxed ((boxed_other HBB.out (Ne.symm hne)).alloc _))
        have hg1 : Fr (fun k => k = X) w0 (((wr.setCell ⟨ba, 0, none⟩ (.slice pt xs'.length (ca - 1))).alloc (.cells #[.bool true, .bool false] 55)).drew) := ((hg.setCell (p := ⟨ba, 0, none⟩) (.inr hb0) _).alloc _).drew
        have HPR := Lib.hid (show pre ++ [((.slice xp xl.length xc, xl), true, false)] ++ mrg xs' [] = mrg as' bs by rw [HM.out, mrg]; simp)
        obtain ⟨fn, tmps, assign, body, hy, hR⟩ := HY.out pre ((.slice xp xl.length xc, xl), true, false) (fun k => k = ba ∨ k = bb) (((wr.setCell ⟨ba, 0, none⟩ (.slice pt xs'.length (ca - 1))).alloc (.cells #[.bool true, .bool false] 55)).drew) (fun k hk => .inl hk) (fun k hk => hk.elim (fun h => by rw [h]; exact hBA1.lt) (fun h => by rw [h]; exact hBB1.lt)) (by omega) hj1 ⟨_, HPR.out⟩
        have HR := Lib.hid hR
        have HBA1 := Lib.hid hBA1
        have HBB1 := Lib.hid hBB1
        simp only [encE] at hy
        have HG1 := Lib.hid hg1
        clear hR hj1 hBA1 hBB1 hj hF1 hg1 hs0 hW1 cA1 cX1 fA1 cA cX
        go_upto_region 10 with fail
        refine (wpIn_wide (n := 3)).1 ?_
        gi_wp2
        refine HR.out.mono ?_
        rintro e W3 hrp
        rcases hrp.elim with ⟨rfl, hfr, hj3⟩ | ⟨rfl, hfr, hj3⟩
        · gi_wp2
          go_wp2_with fail
          go_roundw
          case rel =>
            have hsz3 := hfr.size
            exact ⟨_, xs', [], _, _, HPR.out.symm, hfr.boxed HBA1.out (fun h => h (.inl (.inl rfl))), hfr.boxed HBB1.out (fun h => h (.inl (.inr rfl))), HREST, HB, HNREST, HNB, (fun e he => HLA.out e (by simp [he]) : ∀ e ∈ xs', e.2.length ≤ 1099511627776), HLB, (by first | omega | simp), (by first | omega | simp), hj3,
              HG1.out.trans hfr (fun i hi h => by by_cases e : i = X; exact e; exact absurd (.inr ⟨hi, e⟩) h), by omega⟩
          case measure =>
            have m1 := boxLen_of (hfr.boxed HBA1.out (fun h => h (.inl (.inl rfl))))
            have m2 := boxLen_of (hfr.boxed HBB1.out (fun h => h (.inl (.inr rfl))))
            have m3 := boxLen_of HBA.out
            have m4 := boxLen_of HBB.out
            rw [m1, m2, m3, m4]
            try simp only [List.length_cons, List.length_nil]
            omega
        · gi_wp2
          go_wp2_with fail
          go_returns
          exact ⟨⟨_, rfl⟩, fun k => k = ba ∨ k = bb, fun _ h => h, fun k hk => .inl hk, .inr ⟨_, hj3, ⟨_, HPR.out⟩⟩⟩
      | cons y ys' =>
        obtain ⟨b, o, rfl, hn, hnc, hcx, hrx, hrest⟩ := HA.out.uncons
        obtain ⟨xv, xl⟩ := x
        obtain ⟨xp, xc, hxv⟩ := hrx.shape
        simp only at hxv hrx hcx
        subst hxv
        obtain ⟨b2, o2, rfl, hn2, hnc2, hcy, hry, hrest2⟩ := HB.out.uncons
        obtain ⟨yv, yl⟩ := y
        obtain ⟨yp, yc, hyv⟩ := hry.shape
        simp only at hyv hry hcy
        subst hyv
        have LX := Lib.hid (show b < w0.heap.size from World.block_lt_of_cell? w0 _ hcx)
        obtain ⟨hbX, hrX, hnrest⟩ := HNA.out.uncons
        obtain ⟨hbY, hrY, hnrest2⟩ := HNB.out.uncons
        have HNREST := Lib.hid hnrest
        have HNREST2 := Lib.hid hnrest2
        have HRNX := Lib.hid hrX
        have HRNY := Lib.hid hrY
        clear hnrest hnrest2 hrX hrY
        have cX := hg.cell (p := ⟨b, o, none⟩) hbX hcx
        have cY := hg.cell (p := ⟨b2, o2, none⟩) hbY hcy
        have HRX := Lib.hid hrx
        have HRY := Lib.hid hry
        have HREST := Lib.hid hrest
        have HREST2 := Lib.hid hrest2
        have HXL := Lib.hid (HLA.out _ (List.mem_cons_self ..))
        have HYL := Lib.hid (HLB.out _ (List.mem_cons_self ..))
        simp only [List.length_nil, List.length_cons] at cA cB HBA HBB hlx hca hly hcb
        clear hcx hrx hrest hba hbb hcy hry hrest2 hn hn2 hnc hnc2
        go_upto_region 3 with fail
        refine region_hl (fun w' => G wr w') 99 8 (by kernel_rfl) rfl ?_
        simp only [List.replicate_succ, List.replicate_zero]
        have hs0 : (fun w' => G wr w') wr.drew := (G.refl _).drew
        refine hl_take_np 0 (by kernel_rfl) (by kernel_rfl) rfl (by kernel_rfl) hs0 (v := ?_) ?_ ?_
        rotate_left
        · (rintro x hx; have k1 := hx.cell cA; have k2 := hx.cell cB; have k3 := hx.cell cX; have k4 := hx.cell cY; clear hx; go_simp; try rfl)
        simp only [Act.put, List.setIfInBounds_toArray, List.set_cons_zero, List.set_cons_succ]
        refine hl_take_np 1 (by kernel_rfl) (by kernel_rfl) rfl (by kernel_rfl) hs0 (v := ?_) ?_ ?_
        rotate_left
        · (rintro x hx; have k1 := hx.cell cA; have k2 := hx.cell cB; have k3 := hx.cell cX; have k4 := hx.cell cY; clear hx; go_simp; try rfl)
        simp only [Act.put, List.setIfInBounds_toArray, List.set_cons_zero, List.set_cons_succ]
        refine hl_take_np 2 (by kernel_rfl) (by kernel_rfl) rfl (by kernel_rfl) hs0 (v := ?_) ?_ ?_
        rotate_left
        · (rintro x hx; have k1 := hx.cell cA; have k2 := hx.cell cB; have k3 := hx.cell cX; have k4 := hx.cell cY; clear hx; go_simp; try rfl)
        simp only [Act.put, List.setIfInBounds_toArray, List.set_cons_zero, List.set_cons_succ]
        refine hl_take_np 3 (by kernel_rfl) (by kernel_rfl) rfl (by kernel_rfl) hs0 (v := ?_) ?_ ?_
        rotate_left
        · (rintro x hx; have k1 := hx.cell cA; have k2 := hx.cell cB; have k3 := hx.cell cX; have k4 := hx.cell cY; clear hx; go_simp; try rfl)
        simp only [Act.put, List.setIfInBounds_toArray, List.set_cons_zero, List.set_cons_succ]
        refine hl_take_np 4 (by kernel_rfl) (by kernel_rfl) rfl (by kernel_rfl) hs0 (v := ?_) ?_ ?_
        rotate_left
        · (rintro x hx; have k1 := hx.cell cA; have k2 := hx.cell cB; have k3 := hx.cell cX; have k4 := hx.cell cY; clear hx; go_simp; try rfl)
        simp only [Act.put, List.setIfInBounds_toArray, List.set_cons_zero, List.set_cons_succ]
        refine hl_take_np 5 (by kernel_rfl) (by kernel_rfl) rfl (by kernel_rfl) hs0 (v := ?_) ?_ ?_
        rotate_left
        · (rintro x hx; have k1 := hx.cell cA; have k2 := hx.cell cB; have k3 := hx.cell cX; have k4 := hx.cell cY; clear hx; go_simp; try rfl)
        simp only [Act.put, List.setIfInBounds_toArray, List.set_cons_zero, List.set_cons_succ]
        refine hl_stepW 6 (by kernel_rfl) rfl (by kernel_rfl) ?_
        intro K hK
        go_simp
        refine (dcmp_any xl yl _ _ _ (HRX.out.fr0 (frx hg hs0) (fun h g e1 e2 => HRNX.out h (by rw [e1, e2]))) (HRY.out.fr0 (frx hg hs0) (fun h g e1 e2 => HRNY.out h (by rw [e1, e2]))) HXL.out HYL.out).mono ?_
        rintro e wq ⟨rfl, hgq⟩
        have hs1 : G wr wq := hs0.trans hgq
        refine hK _ _ (fun _ => hs1) ?_
        clear hK
        simp only [Act.put, List.setIfInBounds_toArray, List.set_cons_zero, List.set_cons_succ]
        refine hl_take_np 7 (by kernel_rfl) (by kernel_rfl) rfl (by kernel_rfl) hs1 (v := ?_) ?_ ?_
        rotate_left
        · (rintro x hx; have k1 := hx.cell cA; have k2 := hx.cell cB; have k3 := hx.cell cX; have k4 := hx.cell cY; clear hx; go_simp; try rfl)
        simp only [Act.put, List.setIfInBounds_toArray, List.set_cons_zero, List.set_cons_succ]
        refine hl_done (by kernel_rfl) ?_ _
        refine NoPanic.normal ?_
        obtain ⟨r, hr⟩ : ∃ r, r = rcmp xl yl := ⟨_, rfl⟩
        rw [← hr]
        have HRR := Lib.hid hr
        clear hr
        have hz1 : (((xs'.length : Int) + 1) == 0) = false := by simp; omega
        have hz2 : (((ys'.length : Int) + 1) == 0) = false := by simp; omega
        have HBA0 := HBA
        have HBB0 := HBB
        have HBAq := Lib.hid (hs1.boxed HBA.out)
        have HBBq := Lib.hid (hs1.boxed HBB.out)
        have hjq := (HJ.out pre).g hj hs1
        have hgw := frx hg hs1
        have hszq := hs1.size
        by_cases h0 : r < 0
        · have hr1 : r ≤ 0 := by omega
          have hr2 : ¬ 0 ≤ r := by omega
          have hr3 : ¬ r = 0 := by omega
          have cA := HBAq.out.cell
          have cB := HBBq.out.cell
          have cX := hs1.cell cX
          have fA := HBAq.out.frozen
          have fB := HBBq.out.frozen
          clear cY
          have lb := World.block_lt_of_cell? wq _ cX
          have lba := World.block_lt_of_cell? wq _ cA
          have hW1 : G wq (wq.alloc (.cells #[.bool true, .bool false] 55)) := (G.refl wq).alloc _
          go_upto_region 9 with fail
          have cA1 := hW1.cell cA
          have cX1 := hW1.cell cX
          have hc1 : (1 : Int) ≤ (xs'.length : Int) + 1 := by omega
          have hc2 : (xs'.length : Int) + 1 ≤ (ca : Int) := by omega
          refine region_hl (fun w' => G (wq.alloc (.cells #[.bool true, .bool false] 55)) w') 6 7 (by kernel_rfl) rfl ?_
          simp only [List.replicate_succ, List.replicate_zero]
          have hs2 : (fun w' => G (wq.alloc (.cells #[.bool true, .bool false] 55)) w') (wq.alloc (.cells #[.bool true, .bool false] 55)).drew := (G.refl _).drew
          refine hl_take_np 0 (by kernel_rfl) (by kernel_rfl) rfl (by kernel_rfl) hs2 (v := ?_) ?_ ?_
          rotate_left
          · (rintro x hx; have k1 := hx.cell cA1; have k2 := hx.cell cX1; clear hx; go_simp; try rfl)
          simp only [Act.put, List.setIfInBounds_toArray, List.set_cons_zero, List.set_cons_succ]
          refine hl_take_np 1 (by kernel_rfl) (by kernel_rfl) rfl (by kernel_rfl) hs2 (v := ?_) ?_ ?_
          rotate_left
          · (rintro x hx; have k1 := hx.cell cA1; have k2 := hx.cell cX1; clear hx; go_simp; try rfl)
          simp only [Act.put, List.setIfInBounds_toArray, List.set_cons_zero, List.set_cons_succ]
          refine hl_take_np 2 (by kernel_rfl) (by kernel_rfl) rfl (by kernel_rfl) hs2 (v := ?_) ?_ ?_
          rotate_left
          · (rintro x hx; have k1 := hx.cell cA1; have k2 := hx.cell cX1; clear hx; go_simp; try rfl)
          simp only [Act.put, List.setIfInBounds_toArray, List.set_cons_zero, List.set_cons_succ]
          refine hl_take_np 3 (by kernel_rfl) (by kernel_rfl) rfl (by kernel_rfl) hs2 (v := ?_) ?_ ?_
          rotate_left
          · (rintro x hx; have k1 := hx.cell cA1; have k2 := hx.cell cX1; clear hx; go_simp; try rfl)
          simp only [Act.put, List.setIfInBounds_toArray, List.set_cons_zero, List.set_cons_succ]
          refine hl_take_np 4 (by kernel_rfl) (by kernel_rfl) rfl (by kernel_rfl) hs2 (v := ?_) ?_ ?_
          rotate_left
          · (rintro x hx; have k1 := hx.cell cA1; have k2 := hx.cell cX1; clear hx; go_simp; try rfl)
          simp only [Act.put, List.setIfInBounds_toArray, List.set_cons_zero, List.set_cons_succ]
          refine hl_take_np 5 (by kernel_rfl) (by kernel_rfl) rfl (by kernel_rfl) hs2 (v := ?_) ?_ ?_
          rotate_left
          · (rintro x hx; have k1 := hx.cell cA1; have k2 := hx.cell cX1; clear hx; go_simp; try rfl)
          simp only [Act.put, List.setIfInBounds_toArray, List.set_cons_zero, List.set_cons_succ]
          generalize (if ca = 1 then some (⟨b, o, none⟩ : Addr) else some ⟨b, o + 1, none⟩) = pt at HREST HNREST ⊢
          refine hl_step 6 (by kernel_rfl) rfl ?_
          have fA1 := (hW1.frozen (p := ⟨ba, 0, none⟩) lba).trans fA
          go_wp2_with fail
          refine hl_done (by kernel_rfl) ?_ _
          refine NoPanic.normal ?_
          have hF1 : Fr (fun k => k = ba ∨ k = bb) wq (((wq.setCell ⟨ba, 0, none⟩ (.slice pt xs'.length (ca - 1))).alloc (.cells #[.bool true, .bool false] 55)).drew) := (((Fr.refl _ wq).setCell (p := ⟨ba, 0, none⟩) (.inl (.inl rfl)) _).alloc _).drew
          have hj1 := HJ.out _ _ (fun k => k = ba ∨ k = bb) _ _ hjq (fun _ h => h) (fun _ h => .inl h) hF1
          have hF1s := hF1.size
          have hBA1 : Boxed (((wq.setCell ⟨ba, 0, none⟩ (.slice pt xs'.length (ca - 1))).alloc (.cells #[.bool true, .bool false] 55)).drew) ba 25 (.slice pt xs'.length (ca - 1)) := ((G.drew (G.refl _)).boxed ((HBAq.out.set _).alloc _))
          have hBB1 : Boxed (((wq.setCell ⟨ba, 0, none⟩ (.slice pt xs'.length (ca - 1))).alloc (.cells #[.bool true, .bool false] 55)).drew) bb 25 (.slice (some ⟨b2, o2, none⟩) (ys'.length + 1) cb) := ((G.drew (G.refl _)).boxed ((boxed_other HBBq.out (Ne.symm hne)).alloc _))
          have hg1 : Fr (fun k => k = X) w0 (((wq.setCell ⟨ba, 0, none⟩ (.slice pt xs'.length (ca - 1))).alloc (.cells #[.bool true, .bool false] 55)).drew) := ((hgw.setCell (p := ⟨ba, 0, none⟩) (.inr hb0) _).alloc _).drew
          have HPR := Lib.hid (show pre ++ [((.slice xp xl.length xc, xl), true, false)] ++ mrg xs' ((.slice yp yl.length yc, yl) :: ys') = mrg as' bs by rw [HM.out, mrg, if_pos (by show rcmp xl yl < 0; rw [← HRR.out]; exact h0)]; simp)
          obtain ⟨fn, tmps, assign, body, hy, hR⟩ := HY.out pre ((.slice xp xl.length xc, xl), true, false) (fun k => k = ba ∨ k = bb) (((wq.setCell ⟨ba, 0, none⟩ (.slice pt xs'.length (ca - 1))).alloc (.cells #[.bool true, .bool false] 55)).drew) (fun k hk => .inl hk) (fun k hk => hk.elim (fun h => by rw [h]; exact hBA1.lt) (fun h => by rw [h]; exact hBB1.lt)) (by omega) hj1 ⟨_, HPR.out⟩
          have HR := Lib.hid hR
          have HBA1 := Lib.hid hBA1
          have HBB1 := Lib.hid hBB1
          simp only [encE] at hy
          have HG1 := Lib.hid hg1
          clear hR hj1 hBA1 hBB1 hjq hF1 hg1 hs0 hs1 hs2 hj hW1 cA1 cX1 fA1 cA cX
          go_upto_region 10 with fail
          refine (wpIn_wide (n := 3)).1 ?_
          gi_wp2
          refine HR.out.mono ?_
          rintro e W3 hrp
          rcases hrp.elim with ⟨rfl, hfr, hj3⟩ | ⟨rfl, hfr, hj3⟩
          · gi_wp2
            go_wp2_with fail
            go_roundw
            case rel =>
              have hsz3 := hfr.size
              exact ⟨_, xs', ((.slice yp yl.length yc, yl) :: ys'), _, _, HPR.out.symm, hfr.boxed HBA1.out (fun h => h (.inl (.inl rfl))), hfr.boxed HBB1.out (fun h => h (.inl (.inr rfl))), HREST, HB, HNREST, HNB, (fun e he => HLA.out e (by simp [he]) : ∀ e ∈ xs', e.2.length ≤ 1099511627776), HLB, (by first | omega | simp), (by first | omega | simp), hj3,
                HG1.out.trans hfr (fun i hi h => by by_cases e : i = X; exact e; exact absurd (.inr ⟨hi, e⟩) h), by omega⟩
            case measure =>
              have m1 := boxLen_of (hfr.boxed HBA1.out (fun h => h (.inl (.inl rfl))))
              have m2 := boxLen_of (hfr.boxed HBB1.out (fun h => h (.inl (.inr rfl))))
              have m3 := boxLen_of HBA0.out
              have m4 := boxLen_of HBB0.out
              rw [m1, m2, m3, m4]
              try simp only [List.length_cons, List.length_nil]
              omega
          · gi_wp2
            go_wp2_with fail
            go_returns
            exact ⟨⟨_, rfl⟩, fun k => k = ba ∨ k = bb, fun _ h => h, fun k hk => .inl hk, .inr ⟨_, hj3, ⟨_, HPR.out⟩⟩⟩
        · by_cases h00 : r = 0
          · have hr1 : r ≤ 0 := by omega
            have hr2 : 0 ≤ r := by omega
            have HR0 := Lib.hid h00
            clear h00 h0
            have cA := HBAq.out.cell
            have cB := HBBq.out.cell
            have cX := hs1.cell cX
            have cY := hs1.cell cY
            have fA := HBAq.out.frozen
            have fB := HBBq.out.frozen
            have lba := World.block_lt_of_cell? wq _ cA
            have lbb := World.block_lt_of_cell? wq _ cB
            have hW1 : G wq (wq.alloc (.cells #[.bool true, .bool true] 55)) := (G.refl wq).alloc _
            go_upto_region 7 with fail
            have cB1 := hW1.cell cB
            have cY1 := hW1.cell cY
            have hc1 : (1 : Int) ≤ (ys'.length : Int) + 1 := by omega
            have hc2 : (ys'.length : Int) + 1 ≤ (cb : Int) := by omega
            refine region_hl (fun w' => G (wq.alloc (.cells #[.bool true, .bool true] 55)) w') 6 7 (by kernel_rfl) rfl ?_
            simp only [List.replicate_succ, List.replicate_zero]
            have hs2 : (fun w' => G (wq.alloc (.cells #[.bool true, .bool true] 55)) w') (wq.alloc (.cells #[.bool true, .bool true] 55)).drew := (G.refl _).drew
            refine hl_take_np 0 (by kernel_rfl) (by kernel_rfl) rfl (by kernel_rfl) hs2 (v := ?_) ?_ ?_
            rotate_left
            · (rintro x hx; have k1 := hx.cell cB1; have k2 := hx.cell cY1; clear hx; go_simp; try rfl)
            simp only [Act.put, List.setIfInBounds_toArray, List.set_cons_zero, List.set_cons_succ]
            refine hl_take_np 1 (by kernel_rfl) (by kernel_rfl) rfl (by kernel_rfl) hs2 (v := ?_) ?_ ?_
            rotate_left
            · (rintro x hx; have k1 := hx.cell cB1; have k2 := hx.cell cY1; clear hx; go_simp; try rfl)
            simp only [Act.put, List.setIfInBounds_toArray, List.set_cons_zero, List.set_cons_succ]
            refine hl_take_np 2 (by kernel_rfl) (by kernel_rfl) rfl (by kernel_rfl) hs2 (v := ?_) ?_ ?_
            rotate_left
            · (rintro x hx; have k1 := hx.cell cB1; have k2 := hx.cell cY1; clear hx; go_simp; try rfl)
            simp only [Act.put, List.setIfInBounds_toArray, List.set_cons_zero, List.set_cons_succ]
            refine hl_take_np 3 (by kernel_rfl) (by kernel_rfl) rfl (by kernel_rfl) hs2 (v := ?_) ?_ ?_
            rotate_left
            · (rintro x hx; have k1 := hx.cell cB1; have k2 := hx.cell cY1; clear hx; go_simp; try rfl)
            simp only [Act.put, List.setIfInBounds_toArray, List.set_cons_zero, List.set_cons_succ]
            refine hl_take_np 4 (by kernel_rfl) (by kernel_rfl) rfl (by kernel_rfl) hs2 (v := ?_) ?_ ?_
            rotate_left
            · (rintro x hx; have k1 := hx.cell cB1; have k2 := hx.cell cY1; clear hx; go_simp; try rfl)
            simp only [Act.put, List.setIfInBounds_toArray, List.set_cons_zero, List.set_cons_succ]
            refine hl_take_np 5 (by kernel_rfl) (by kernel_rfl) rfl (by kernel_rfl) hs2 (v := ?_) ?_ ?_
            rotate_left
            · (rintro x hx; have k1 := hx.cell cB1; have k2 := hx.cell cY1; clear hx; go_simp; try rfl)
            simp only [Act.put, List.setIfInBounds_toArray, List.set_cons_zero, List.set_cons_succ]
            generalize (if cb = 1 then some (⟨b2, o2, none⟩ : Addr) else some ⟨b2, o2 + 1, none⟩) = pt2 at HREST2 HNREST2 ⊢
            refine hl_step 6 (by kernel_rfl) rfl ?_
            have fB1 := (hW1.frozen (p := ⟨bb, 0, none⟩) lbb).trans fB
            go_wp2_with fail
            refine hl_done (by kernel_rfl) ?_ _
            refine NoPanic.normal ?_
            have hgV : Fr (fun k => k = bb) wq (((wq.setCell ⟨bb, 0, none⟩ (.slice pt2 ys'.length (cb - 1))).alloc (.cells #[.bool true, .bool true] 55)).drew) := (((Fr.refl (fun k => k = bb) wq).setCell (p := ⟨bb, 0, none⟩) (.inl rfl) _).alloc _).drew
            have HBA2 := Lib.hid (hgV.boxed HBAq.out hne)
            clear hs2 cB1 cY1 fB1 cA fA cB fB hW1 cY
            have cA2 := HBA2.out.cell
            have fA2 := HBA2.out.frozen
            have cX2 := hgV.cell (p := ⟨b, o, none⟩) (by show ¬ b = bb; have := LX.out; omega) cX
            go_upto_region 9 with fail
            have hd1 : (1 : Int) ≤ (xs'.length : Int) + 1 := by omega
            have hd2 : (xs'.length : Int) + 1 ≤ (ca : Int) := by omega
            refine region_hl (fun w' => G (((wq.setCell ⟨bb, 0, none⟩ (.slice pt2 ys'.length (cb - 1))).alloc (.cells #[.bool true, .bool true] 55)).drew) w') 6 7 (by kernel_rfl) rfl ?_
            simp only [List.replicate_succ, List.replicate_zero]
            have hs3 : (fun w' => G (((wq.setCell ⟨bb, 0, none⟩ (.slice pt2 ys'.length (cb - 1))).alloc (.cells #[.bool true, .bool true] 55)).drew) w') (((wq.setCell ⟨bb, 0, none⟩ (.slice pt2 ys'.length (cb - 1))).alloc (.cells #[.bool true, .bool true] 55)).drew).drew := (G.refl _).drew
            refine hl_take_np 0 (by kernel_rfl) (by kernel_rfl) rfl (by kernel_rfl) hs3 (v := ?_) ?_ ?_
            rotate_left
            · (rintro x hx; have k1 := hx.cell cA2; have k2 := hx.cell cX2; clear hx; go_simp; try rfl)
            simp only [Act.put, List.setIfInBounds_toArray, List.set_cons_zero, List.set_cons_succ]
            refine hl_take_np 1 (by kernel_rfl) (by kernel_rfl) rfl (by kernel_rfl) hs3 (v := ?_) ?_ ?_
            rotate_left
            · (rintro x hx; have k1 := hx.cell cA2; have k2 := hx.cell cX2; clear hx; go_simp; try rfl)
            simp only [Act.put, List.setIfInBounds_toArray, List.set_cons_zero, List.set_cons_succ]
            refine hl_take_np 2 (by kernel_rfl) (by kernel_rfl) rfl (by kernel_rfl) hs3 (v := ?_) ?_ ?_
            rotate_left
            · (rintro x hx; have k1 := hx.cell cA2; have k2 := hx.cell cX2; clear hx; go_simp; try rfl)
            simp only [Act.put, List.setIfInBounds_toArray, List.set_cons_zero, List.set_cons_succ]
            refine hl_take_np 3 (by kernel_rfl) (by kernel_rfl) rfl (by kernel_rfl) hs3 (v := ?_) ?_ ?_
            rotate_left
            · (rintro x hx; have k1 := hx.cell cA2; have k2 := hx.cell cX2; clear hx; go_simp; try rfl)
            simp only [Act.put, List.setIfInBounds_toArray, List.set_cons_zero, List.set_cons_succ]
            refine hl_take_np 4 (by kernel_rfl) (by kernel_rfl) rfl (by kernel_rfl) hs3 (v := ?_) ?_ ?_
            rotate_left
            · (rintro x hx; have k1 := hx.cell cA2; have k2 := hx.cell cX2; clear hx; go_simp; try rfl)
            simp only [Act.put, List.setIfInBounds_toArray, List.set_cons_zero, List.set_cons_succ]
            refine hl_take_np 5 (by kernel_rfl) (by kernel_rfl) rfl (by kernel_rfl) hs3 (v := ?_) ?_ ?_
            rotate_left
            · (rintro x hx; have k1 := hx.cell cA2; have k2 := hx.cell cX2; clear hx; go_simp; try rfl)
            simp only [Act.put, List.setIfInBounds_toArray, List.set_cons_zero, List.set_cons_succ]
            generalize (if ca = 1 then some (⟨b, o, none⟩ : Addr) else some ⟨b, o + 1, none⟩) = pt at HREST HNREST ⊢
            refine hl_step 6 (by kernel_rfl) rfl ?_
            go_wp2_with fail
            refine hl_done (by kernel_rfl) ?_ _
            refine NoPanic.normal ?_
            have hF1 : Fr (fun k => k = ba ∨ k = bb) wq ((((wq.setCell ⟨bb, 0, none⟩ (.slice pt2 ys'.length (cb - 1))).setCell ⟨ba, 0, none⟩ (.slice pt xs'.length (ca - 1))).alloc (.cells #[.bool true, .bool true] 55)).drew.drew) := (((((Fr.refl _ wq).setCell (p := ⟨bb, 0, none⟩) (.inl (.inr rfl)) _).setCell (p := ⟨ba, 0, none⟩) (.inl (.inl rfl)) _).alloc _).drew).drew
            have hj1 := HJ.out _ _ (fun k => k = ba ∨ k = bb) _ _ hjq (fun _ h => h) (fun _ h => .inl h) hF1
            have hF1s := hF1.size
            have hBA1 : Boxed ((((wq.setCell ⟨bb, 0, none⟩ (.slice pt2 ys'.length (cb - 1))).setCell ⟨ba, 0, none⟩ (.slice pt xs'.length (ca - 1))).alloc (.cells #[.bool true, .bool true] 55)).drew.drew) ba 25 (.slice pt xs'.length (ca - 1)) := ((G.drew (G.drew (G.refl _))).boxed (((boxed_other HBAq.out hne).set _).alloc _))
            have hBB1 : Boxed ((((wq.setCell ⟨bb, 0, none⟩ (.slice pt2 ys'.length (cb - 1))).setCell ⟨ba, 0, none⟩ (.slice pt xs'.length (ca - 1))).alloc (.cells #[.bool true, .bool true] 55)).drew.drew) bb 25 (.slice pt2 ys'.length (cb - 1)) := ((G.drew (G.drew (G.refl _))).boxed ((boxed_other (HBBq.out.set _) (Ne.symm hne)).alloc _))
            have hg1 : Fr (fun k => k = X) w0 ((((wq.setCell ⟨bb, 0, none⟩ (.slice pt2 ys'.length (cb - 1))).setCell ⟨ba, 0, none⟩ (.slice pt xs'.length (ca - 1))).alloc (.cells #[.bool true, .bool true] 55)).drew.drew) := ((((hgw.setCell (p := ⟨bb, 0, none⟩) (.inr hb1) _).setCell (p := ⟨ba, 0, none⟩) (.inr hb0) _).alloc _).drew).drew
            have HPR := Lib.hid (show pre ++ [((.slice xp xl.length xc, xl), true, true)] ++ mrg xs' ys' = mrg as' bs by rw [HM.out, mrg, if_neg (by show ¬ rcmp xl yl < 0; rw [← HRR.out, HR0.out]; omega), if_pos (by show rcmp xl yl = 0; rw [← HRR.out, HR0.out])]; simp)
            obtain ⟨fn, tmps, assign, body, hy, hR⟩ := HY.out pre ((.slice xp xl.length xc, xl), true, true) (fun k => k = ba ∨ k = bb) ((((wq.setCell ⟨bb, 0, none⟩ (.slice pt2 ys'.length (cb - 1))).setCell ⟨ba, 0, none⟩ (.slice pt xs'.length (ca - 1))).alloc (.cells #[.bool true, .bool true] 55)).drew.drew) (fun k hk => .inl hk) (fun k hk => hk.elim (fun h => by rw [h]; exact hBA1.lt) (fun h => by rw [h]; exact hBB1.lt)) (by omega) hj1 ⟨_, HPR.out⟩
            have HR := Lib.hid hR
            have HBA1 := Lib.hid hBA1
            have HBB1 := Lib.hid hBB1
            simp only [encE] at hy
            have HG1 := Lib.hid hg1
            clear hR hj1 hBA1 hBB1 hjq hF1 hg1 hs0 hs1 hs3 hj cA2 cX2 fA2 hgV cX
            go_upto_region 10 with fail
            refine (wpIn_wide (n := 3)).1 ?_
            gi_wp2
            refine HR.out.mono ?_
            rintro e W3 hrp
            rcases hrp.elim with ⟨rfl, hfr, hj3⟩ | ⟨rfl, hfr, hj3⟩
            · gi_wp2
              go_wp2_with fail
              go_roundw
              case rel =>
                have hsz3 := hfr.size
                exact ⟨_, xs', ys', _, _, HPR.out.symm, hfr.boxed HBA1.out (fun h => h (.inl (.inl rfl))), hfr.boxed HBB1.out (fun h => h (.inl (.inr rfl))), HREST, HREST2, HNREST, HNREST2, (fun e he => HLA.out e (by simp [he]) : ∀ e ∈ xs', e.2.length ≤ 1099511627776), (fun e he => HLB.out e (by simp [he]) : ∀ e ∈ ys', e.2.length ≤ 1099511627776), (by first | omega | simp), (by first | omega | simp), hj3,
                  HG1.out.trans hfr (fun i hi h => by by_cases e : i = X; exact e; exact absurd (.inr ⟨hi, e⟩) h), by omega⟩
              case measure =>
                have m1 := boxLen_of (hfr.boxed HBA1.out (fun h => h (.inl (.inl rfl))))
                have m2 := boxLen_of (hfr.boxed HBB1.out (fun h => h (.inl (.inr rfl))))
                have m3 := boxLen_of HBA0.out
                have m4 := boxLen_of HBB0.out
                rw [m1, m2, m3, m4]
                try simp only [List.length_cons, List.length_nil]
                omega
            · gi_wp2
              go_wp2_with fail
              go_returns
              exact ⟨⟨_, rfl⟩, fun k => k = ba ∨ k = bb, fun _ h => h, fun k hk => .inl hk, .inr ⟨_, hj3, ⟨_, HPR.out⟩⟩⟩
          · have hr1 : ¬ r ≤ 0 := by omega
            have hr2 : 0 ≤ r := by omega
            have cA := HBAq.out.cell
            have cB := HBBq.out.cell
            have cY := hs1.cell cY
            have fA := HBAq.out.frozen
            have fB := HBBq.out.frozen
            clear cX
            have lb := World.block_lt_of_cell? wq _ cY
            have lbb := World.block_lt_of_cell? wq _ cB
            have hW1 : G wq (wq.alloc (.cells #[.bool false, .bool true] 55)) := (G.refl wq).alloc _
            go_upto_region 7 with fail
            have cB1 := hW1.cell cB
            have cY1 := hW1.cell cY
            have hc1 : (1 : Int) ≤ (ys'.length : Int) + 1 := by omega
            have hc2 : (ys'.length : Int) + 1 ≤ (cb : Int) := by omega
            refine region_hl (fun w' => G (wq.alloc (.cells #[.bool false, .bool true] 55)) w') 6 7 (by kernel_rfl) rfl ?_
            simp only [List.replicate_succ, List.replicate_zero]
            have hs2 : (fun w' => G (wq.alloc (.cells #[.bool false, .bool true] 55)) w') (wq.alloc (.cells #[.bool false, .bool true] 55)).drew := (G.refl _).drew
            refine hl_take_np 0 (by kernel_rfl) (by kernel_rfl) rfl (by kernel_rfl) hs2 (v := ?_) ?_ ?_
            rotate_left
            · (rintro x hx; have k1 := hx.cell cB1; have k2 := hx.cell cY1; clear hx; go_simp; try rfl)
            simp only [Act.put, List.setIfInBounds_toArray, List.set_cons_zero, List.set_cons_succ]
            refine hl_take_np 1 (by kernel_rfl) (by kernel_rfl) rfl (by kernel_rfl) hs2 (v := ?_) ?_ ?_
            rotate_left
            · (rintro x hx; have k1 := hx.cell cB1; have k2 := hx.cell cY1; clear hx; go_simp; try rfl)
            simp only [Act.put, List.setIfInBounds_toArray, List.set_cons_zero, List.set_cons_succ]
            refine hl_take_np 2 (by kernel_rfl) (by kernel_rfl) rfl (by kernel_rfl) hs2 (v := ?_) ?_ ?_
            rotate_left
            · (rintro x hx; have k1 := hx.cell cB1; have k2 := hx.cell cY1; clear hx; go_simp; try rfl)
            simp only [Act.put, List.setIfInBounds_toArray, List.set_cons_zero, List.set_cons_succ]
            refine hl_take_np 3 (by kernel_rfl) (by kernel_rfl) rfl (by kernel_rfl) hs2 (v := ?_) ?_ ?_
            rotate_left
            · (rintro x hx; have k1 := hx.cell cB1; have k2 := hx.cell cY1; clear hx; go_simp; try rfl)
            simp only [Act.put, List.setIfInBounds_toArray, List.set_cons_zero, List.set_cons_succ]
            refine hl_take_np 4 (by kernel_rfl) (by kernel_rfl) rfl (by kernel_rfl) hs2 (v := ?_) ?_ ?_
            rotate_left
            · (rintro x hx; have k1 := hx.cell cB1; have k2 := hx.cell cY1; clear hx; go_simp; try rfl)
            simp only [Act.put, List.setIfInBounds_toArray, List.set_cons_zero, List.set_cons_succ]
            refine hl_take_np 5 (by kernel_rfl) (by kernel_rfl) rfl (by kernel_rfl) hs2 (v := ?_) ?_ ?_
            rotate_left
            · (rintro x hx; have k1 := hx.cell cB1; have k2 := hx.cell cY1; clear hx; go_simp; try rfl)
            simp only [Act.put, List.setIfInBounds_toArray, List.set_cons_zero, List.set_cons_succ]
            generalize (if cb = 1 then some (⟨b2, o2, none⟩ : Addr) else some ⟨b2, o2 + 1, none⟩) = pt at HREST2 HNREST2 ⊢
            refine hl_step 6 (by kernel_rfl) rfl ?_
            have fB1 := (hW1.frozen (p := ⟨bb, 0, none⟩) lbb).trans fB
            go_wp2_with fail
            refine hl_done (by kernel_rfl) ?_ _
            refine NoPanic.normal ?_
            have hF1 : Fr (fun k => k = ba ∨ k = bb) wq (((wq.setCell ⟨bb, 0, none⟩ (.slice pt ys'.length (cb - 1))).alloc (.cells #[.bool false, .bool true] 55)).drew) := (((Fr.refl _ wq).setCell (p := ⟨bb, 0, none⟩) (.inl (.inr rfl)) _).alloc _).drew
            have hj1 := HJ.out _ _ (fun k => k = ba ∨ k = bb) _ _ hjq (fun _ h => h) (fun _ h => .inl h) hF1
            have hF1s := hF1.size
            have hBA1 : Boxed (((wq.setCell ⟨bb, 0, none⟩ (.slice pt ys'.length (cb - 1))).alloc (.cells #[.bool false, .bool true] 55)).drew) ba 25 (.slice (some ⟨b, o, none⟩) (xs'.length + 1) ca) := ((G.drew (G.refl _)).boxed ((boxed_other HBAq.out hne).alloc _))
            have hBB1 : Boxed (((wq.setCell ⟨bb, 0, none⟩ (.slice pt ys'.length (cb - 1))).alloc (.cells #[.bool false, .bool true] 55)).drew) bb 25 (.slice pt ys'.length (cb - 1)) := ((G.drew (G.refl _)).boxed ((HBBq.out.set _).alloc _))
            have hg1 : Fr (fun k => k = X) w0 (((wq.setCell ⟨bb, 0, none⟩ (.slice pt ys'.length (cb - 1))).alloc (.cells #[.bool false, .bool true] 55)).drew) := ((hgw.setCell (p := ⟨bb, 0, none⟩) (.inr hb1) _).alloc _).drew
            have HPR := Lib.hid (show pre ++ [((.slice yp yl.length yc, yl), false, true)] ++ mrg ((.slice xp xl.length xc, xl) :: xs') ys' = mrg as' bs by rw [HM.out, mrg, if_neg (by show ¬ rcmp xl yl < 0; rw [← HRR.out]; omega), if_neg (by show ¬ rcmp xl yl = 0; rw [← HRR.out]; omega)]; simp)
            obtain ⟨fn, tmps, assign, body, hy, hR⟩ := HY.out pre ((.slice yp yl.length yc, yl), false, true) (fun k => k = ba ∨ k = bb) (((wq.setCell ⟨bb, 0, none⟩ (.slice pt ys'.length (cb - 1))).alloc (.cells #[.bool false, .bool true] 55)).drew) (fun k hk => .inl hk) (fun k hk => hk.elim (fun h => by rw [h]; exact hBA1.lt) (fun h => by rw [h]; exact hBB1.lt)) (by omega) hj1 ⟨_, HPR.out⟩
            have HR := Lib.hid hR
            have HBA1 := Lib.hid hBA1
            have HBB1 := Lib.hid hBB1
            simp only [encE] at hy
            have HG1 := Lib.hid hg1
            clear hR hj1 hBA1 hBB1 hjq hF1 hg1 hs0 hs1 hs2 hj hW1 cB1 cY1 fB1 cB cY
            go_upto_region 10 with fail
            refine (wpIn_wide (n := 3)).1 ?_
            gi_wp2
            refine HR.out.mono ?_
            rintro e W3 hrp
            rcases hrp.elim with ⟨rfl, hfr, hj3⟩ | ⟨rfl, hfr, hj3⟩
            · gi_wp2
              go_wp2_with fail
              go_roundw
              case rel =>
                have hsz3 := hfr.size
                exact ⟨_, ((.slice xp xl.length xc, xl) :: xs'), ys', _, _, HPR.out.symm, hfr.boxed HBA1.out (fun h => h (.inl (.inl rfl))), hfr.boxed HBB1.out (fun h => h (.inl (.inr rfl))), HA, HREST2, HNA, HNREST2, HLA, (fun e he => HLB.out e (by simp [he]) : ∀ e ∈ ys', e.2.length ≤ 1099511627776), (by first | omega | simp), (by first | omega | simp), hj3,
                  HG1.out.trans hfr (fun i hi h => by by_cases e : i = X; exact e; exact absurd (.inr ⟨hi, e⟩) h), by omega⟩
              case measure =>
                have m1 := boxLen_of (hfr.boxed HBA1.out (fun h => h (.inl (.inl rfl))))
                have m2 := boxLen_of (hfr.boxed HBB1.out (fun h => h (.inl (.inr rfl))))
                have m3 := boxLen_of HBA0.out
                have m4 := boxLen_of HBB0.out
                rw [m1, m2, m3, m4]
                try simp only [List.length_cons, List.length_nil]
                omega
            · gi_wp2
              go_wp2_with fail
              go_returns
              exact ⟨⟨_, rfl⟩, fun k => k = ba ∨ k = bb, fun _ h => h, fun k hk => .inl hk, .inr ⟨_, hj3, ⟨_, HPR.out⟩⟩⟩
end Go.Proofs.Ythhjioehkgbphaa
