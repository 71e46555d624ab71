/- Closes: the program's iterator -/
import Derived.Test.YthhmmjpgefinmaaRelS
set_option maxRecDepth 10000
namespace Go.Proofs.Ythhmmjpgefinmaa
set_option linter.unusedVariables false
set_option linter.unusedSimpArgs false
open Go.RowKit Go.Shelf
attribute [local go_sem] Oper.semAt_some

/-- the closes that come -/
def closesW (a b : Int) (l : List Slt) : List (Int × Int) := if (cntV a b l).2 = 0 then closesD a b l else []
theorem rcloses_any (a b : Int) (v : Value) (p : Option Addr) (n c : Nat) (hv : v = .slice p n c) (w : World) : Calls Try.prog 13 #[.int .i64 a, .int .i64 b, v] w fun e w' => ∃ ba bb bs : Nat,
    e = .returned (.func (.func 30) #[] #[.pointer (some ⟨ba, 0, none⟩), .pointer (some ⟨bb, 0, none⟩), .pointer (some ⟨bs, 0, none⟩)]) ∧
    Boxed w' ba 3 (.int .i64 a) ∧ Boxed w' bb 3 (.int .i64 b) ∧ Boxed w' bs 22 v ∧ (w.heap.size ≤ ba ∧ w.heap.size ≤ bb ∧ w.heap.size ≤ bs) ∧ G w w' := by
  subst hv
  go_enter Try.func13, Try.ntmps13
  go_wp2
  go_ret
  refine ⟨_, _, _, rfl, ((Boxed.new w 3 _).alloc _).alloc _, ?_, ?_, ⟨by omega, by omega, by omega⟩, (((G.refl _).alloc _).alloc _).alloc _⟩
  · have := (Boxed.new (w.alloc (.cells #[.int .i64 a] 3)) 3 (.int .i64 b)).alloc (.cells #[.slice p n c] 22)
    simpa using this
  · have := Boxed.new ((w.alloc (.cells #[.int .i64 a] 3)).alloc (.cells #[.int .i64 b] 3)) 22 (.slice p n c)
    simpa using this
def encC (x : Int × Int) : Array Value := #[.int .i64 x.1, .int .i64 x.2]
/-- where the iterator stands -/
structure CUp (a b : Int) (v : Value) (l : List Slt) (ba bb bs : Nat) (W : World) (J : List (Int × Int) → (Nat → Prop) → World → Prop) (pre : List (Int × Int)) (wr : World) : Prop where
  h1 : Boxed wr ba 3 (.int .i64 a)
  h2 : Boxed wr bb 3 (.int .i64 b)
  h3 : Boxed wr bs 22 v
  rd : RdrS wr v l
  j : J pre (fun _ => False) wr
  size : W.heap.size ≤ wr.heap.size
theorem CUp.g {a b : Int} {v : Value} {l : List Slt} {ba bb bs : Nat} {W : World} {J : List (Int × Int) → (Nat → Prop) → World → Prop} {pre : List (Int × Int)} {wr w' : World} (h : CUp a b v l ba bb bs W J pre wr) (hJ : ∀ p, Stable (J p)) (hg : G wr w') : CUp a b v l ba bb bs W J pre w' :=
  ⟨hg.boxed h.h1, hg.boxed h.h2, hg.boxed h.h3, h.rd.g hg, (hJ pre).g h.j hg, Nat.le_trans h.size hg.size⟩
def RoC (l : List Slt) (v : Value) (ba bb bs : Nat) : Nat → Prop := fun k => (k = ba ∨ k = bb ∨ k = bs) ∨ (0 < l.length ∧ v.ownBlock = some k)
theorem CUp.yield {a b : Int} {v : Value} {l : List Slt} {ba bb bs : Nat} {W : World} {J : List (Int × Int) → (Nat → Prop) → World → Prop} {pre pre' : List (Int × Int)} {wr w' : World} (h : CUp a b v l ba bb bs W J pre wr) (hf : Fr (fun k => ¬ ((fun _ => False) k ∨ RoC l v ba bb bs k)) wr w') (hj : J pre' (fun _ => False) w') : CUp a b v l ba bb bs W J pre' w' :=
  ⟨hf.boxed h.h1 (fun h => h (.inr (.inl (.inl rfl)))), hf.boxed h.h2 (fun h => h (.inr (.inl (.inr (.inl rfl))))), hf.boxed h.h3 (fun h => h (.inr (.inl (.inr (.inr rfl))))), h.rd.frn hf (fun h0 g hg h => h (.inr (.inr ⟨h0, hg⟩))), hj, Nat.le_trans h.size hf.size⟩
theorem row_cons_yes {t q s : Int} {l : List Slt} (h : t % s = 0) : rowC t ((q, s) :: l) = (t, q) :: rowC t l := by
  unfold rowC; rw [List.filter_cons_of_pos (by simp [dv, h])]; rfl
theorem row_cons_no {t q s : Int} {l : List Slt} (h : ¬ t % s = 0) : rowC t ((q, s) :: l) = rowC t l := by
  unfold rowC; rw [List.filter_cons_of_neg (by simp [dv, h])]
structure CAt (a b : Int) (l : List Slt) (pre : List (Int × Int)) (t : Int) : Prop where
  cat : pre ++ (if t ≤ b then rowC t l ++ closesD t b l else []) = closesD a b l
  pos : t ≤ b → 0 < t
  le : t ≤ b + 1
set_option maxHeartbeats 8000000 in
theorem rcloses_seq (a b : Int) (l : List Slt) (v : Value) (ba bb bs : Nat) (w : World) (h1 : Boxed w ba 3 (.int .i64 a)) (h2 : Boxed w bb 3 (.int .i64 b)) (h3 : Boxed w bs 22 v) (hr : RdrS w v l) (hn : l.length ≤ 4611686018427387904) :
    Seq Try.prog 30 #[.pointer (some ⟨ba, 0, none⟩), .pointer (some ⟨bb, 0, none⟩), .pointer (some ⟨bs, 0, none⟩)] encC (RoC l v ba bb bs) (fun _ => False)
      (fun xs _ _ => xs = closesW a b l) (fun pre _ _ => pre <+: closesW a b l) (fun pre x => pre ++ [x] <+: closesW a b l) w := by
  intro y J Jx W hW hJ hJx hY hj0
  have HY := Lib.hid hY
  have HJ := Lib.hid hJ
  have HU0 : Hid (CUp a b v l ba bb bs W J [] W) := Lib.hid ⟨hW.boxed h1, hW.boxed h2, hW.boxed h3, hr.g hW, hj0, Nat.le_refl _⟩
  clear hY hJ hJx hj0 h1 h2 h3 hW
  obtain ⟨p, c, rfl⟩ := hr.shape
  clear hr
  obtain ⟨m, hm⟩ : ∃ m, m = l.length := ⟨_, rfl⟩
  rw [← hm] at HU0 HY
  have HM := Lib.hid hm
  have hn2 : m ≤ 4611686018427387904 := by omega
  have HNL := Lib.hid hn
  clear hm hn
  show Calls Try.prog 30 #[.func (.yield y) #[] #[], .pointer (some ⟨ba, 0, none⟩), .pointer (some ⟨bb, 0, none⟩), .pointer (some ⟨bs, 0, none⟩)] W _
  have c1 := HU0.out.h1.cell
  have c2 := HU0.out.h2.cell
  have c3 := HU0.out.h3.cell
  have HCT := Lib.hid (rcount_any a b l _ W HU0.out.rd HNL.out)
  obtain ⟨n, e, hcv⟩ : ∃ n e, cntV a b l = (n, e) := ⟨_, _, rfl⟩
  have hct : cntT a b l = .tuple #[.int .i64 n, .int .i64 e] := by unfold cntT; rw [hcv]
  rw [hct] at HCT
  have HCV := Lib.hid hcv
  clear hct hcv
  go_enter Try.func30, Try.ntmps30
  go_wp2_with fail
  go_step3
  go_wp2_with fail
  refine HCT.out.mono ?_
  rintro e0 w1 ⟨rfl, hg1⟩
  have HU1 := Lib.hid (HU0.out.g HJ.out hg1)
  have HNIL : Hid (closesW a b l = [] → ∀ rv, SeqEnd (fun _ => False) W J Jx (fun xs _ _ => xs = closesW a b l) (fun pre _ _ => pre <+: closesW a b l) (.returned rv) w1) := Lib.hid (fun h rv => ⟨⟨_, rfl⟩, fun _ => False, fun _ h => h, fun _ h => h.elim, .inl ⟨[], HU1.out.j, h.symm⟩⟩)
  clear HU0 HCT hg1 c1 c2 c3
  have c1 := HU1.out.h1.cell
  have c2 := HU1.out.h2.cell
  have c3 := HU1.out.h3.cell
  by_cases he : e = 0
  · subst he
    obtain ⟨hok, hnl, hn4⟩ := cntV_ok HCV.out
    by_cases hn0 : n = 0
    · have hnil : closesW a b l = [] := by
        unfold closesW; rw [HCV.out, if_pos rfl]
        exact List.length_eq_zero_iff.1 (by omega)
      have HE := Lib.hid (HNIL.out hnil)
      subst hn0
      clear HNIL hnil hnl hn4
      go_wp2_with fail
      go_returns
      exact HE.out _
    · have hcw : closesW a b l = closesD a b l := by unfold closesW; rw [HCV.out, if_pos rfl]
      obtain ⟨hrl, hma, hmb⟩ : rightL l = true ∧ mkB a = true ∧ mkB b = true := by
        unfold okL at hok; simp only [Bool.and_eq_true] at hok; exact ⟨hok.1, hok.2.1, hok.2.2⟩
      have HSN := Lib.hid (fun (X : World) (hX : RdrS X (.slice p m c) l) (t : Int) (ht : mkB t = true) => soon_any t b l _ X hX HNL.out ht hmb hrl)
      have HSP := Lib.hid (fun (t : Int) => soon_step (a := t) (b := b) (l := l) (fun s hs => (rightA_mem hrl s hs).2.1) (mk_iff.1 hmb).2)
      have HLE := Lib.hid (fun (t : Int) => soonV_le (l := l) (a := t) (f := b + 1))
      obtain ⟨hb1, hb2⟩ := mk_iff.1 hmb
      have HMA := Lib.hid hma
      have HRL := Lib.hid hrl
      have HCW := Lib.hid hcw
      have hnd : decide (n = 0) = false := by simpa using hn0
      clear HNIL hnl hn4 hok hrl hma hmb hcw HCV
      go_wp2_with fail
      refine wp_label ?_
      go_wp2_with fail
      refine (HSN.out w1 HU1.out.rd a HMA.out).mono ?_
      rintro e0 w2 ⟨rfl, hg2⟩
      have HU2 := Lib.hid (HU1.out.g HJ.out hg2)
      obtain ⟨T0, hT0⟩ : ∃ T, T = soonV a (b + 1) l := ⟨_, rfl⟩
      have HT0 : Hid ((T0 ≤ b → 0 < T0 ∧ closesD a b l = rowC T0 l ++ closesD T0 b l) ∧ (¬ T0 ≤ b → closesD a b l = []) ∧ T0 ≤ b + 1) := Lib.hid (by
        rw [hT0]
        obtain ⟨x1, x2⟩ := HSP.out a
        exact ⟨fun h => ⟨by have := (x1 h).1; omega, (x1 h).2⟩, fun h => x2 (by omega), HLE.out a⟩)
      rw [← hT0]
      clear HU1 hg2 c1 c2 c3 hT0
      go_wp2_with fail
      have HC0 : Hid (CAt a b l [] T0) := Lib.hid ⟨by
        by_cases h : T0 ≤ b
        · rw [if_pos h, (HT0.out.1 h).2]; rfl
        · rw [if_neg h, HT0.out.2.1 (by omega)]; rfl, fun h => (HT0.out.1 h).1, HT0.out.2.2⟩
      clear HT0
      go_loopg [7, 8] ((b + 1 - T0).toNat) (fun g tv is wr => ∃ (pre : List (Int × Int)) (t : Int), g = (b + 1 - t).toNat ∧ tv = .int .i64 t ∧ is = .bool (decide (t ≤ b)) ∧ Hid (CAt a b l pre t) ∧ Hid (CUp a b (.slice p m c) l ba bb bs W J pre wr))
      case atStart => exact ⟨[], T0, rfl, rfl, rfl, HC0, HU2⟩
      case round =>
        clear HC0 HU2
        obtain ⟨pre, t, rfl, rfl, rfl, HC, HU⟩ := hrel
        have c1 := HU.out.h1.cell
        have c2 := HU.out.h2.cell
        have c3 := HU.out.h3.cell
        by_cases hle : t ≤ b
        · have hle' : decide (t ≤ b) = true := by simpa using hle
          have ht0 := HC.out.pos hle
          have HCI : Hid (pre ++ (rowC t (l.drop 0) ++ closesD t b l) = closesD a b l) := Lib.hid (by have := HC.out.cat; rw [if_pos hle] at this; exact this)
          obtain ⟨WA, rfl⟩ : ∃ WA : World, WA = wr := ⟨_, rfl⟩
          clear HC
          rw [hle']
          go_wp2_with fail
          go_loopg [41] m (fun g i wr => ∃ (k : Nat) (pre2 : List (Int × Int)), k ≤ m ∧ g = m - k ∧ i = .int .i64 k ∧ Hid (pre2 ++ (rowC t (l.drop k) ++ closesD t b l) = closesD a b l) ∧ Hid (CUp a b (.slice p m c) l ba bb bs W J pre2 wr))
          case atStart => exact ⟨0, pre, by omega, by omega, rfl, HCI, HU⟩
          case round =>
            clear HCI HU c1 c2 c3 pre
            obtain ⟨k, pre, hk, rfl, rfl, HC, HU⟩ := hrel
            have c1 := HU.out.h1.cell
            have c2 := HU.out.h2.cell
            have c3 := HU.out.h3.cell
            by_cases hlt : k < m
            · have hkI : (k : Int) < (m : Int) := by omega
              obtain ⟨bb', o, q, s, hx, rfl, d0, d1⟩ := RdrS.at (by have := HU.out.rd; unfold RdrS at this; rw [← HM.out] at this; exact this) HM.out hlt
              obtain ⟨hq, hs1, hs2⟩ := right_at HRL.out hx
              have hs0 : s ≠ 0 := by omega
              have hdr := drop_get hx
              by_cases hd : t % s = 0
              · have HC2 : Hid ((pre ++ [(t, q)]) ++ (rowC t (l.drop (k + 1)) ++ closesD t b l) = closesD a b l) := Lib.hid (by rw [← HC.out, hdr, row_cons_yes hd]; simp)
                have hga : G wr (wr.alloc (.cells #[.int .i64 q, .int .i64 s] 55)) := (G.refl wr).alloc _
                have HUa := Lib.hid (HU.out.g HJ.out hga)
                obtain ⟨fn, tmps, assign, body, hy, hR⟩ := HY.out pre (t, q) (fun _ => False) _ (fun _ h => h.elim) (fun _ h => h.elim) HUa.out.size HUa.out.j (by rw [HCW.out, ← HC2.out]; exact ⟨_, rfl⟩)
                simp only [encC] at hy
                have HR := Lib.hid hR
                clear hdr hx hq hR hga
                go_upto_region 8 with fail
                refine (wpIn_wide (n := 3)).1 ?_
                gi_wp2
                refine HR.out.mono ?_
                rintro e0 W3 hrp
                rcases hrp.elim with ⟨rfl, hfr, hj3⟩ | ⟨rfl, hfr, hj3⟩
                · have HU3 := Lib.hid (HUa.out.yield hfr hj3)
                  clear hfr hj3 hrp hy HR
                  gi_wp2
                  go_wp2_with fail
                  go_roundg (m - (k + 1))
                  case rel => exact ⟨k + 1, pre ++ [(t, q)], by omega, rfl, by go_num, HC2, HU3⟩
                  all_goals omega
                · have HJ3 := Lib.hid hj3
                  have HPF : Hid (pre ++ [(t, q)] <+: closesW a b l) := Lib.hid (by rw [HCW.out, ← HC2.out]; exact ⟨_, rfl⟩)
                  clear hfr hj3 hrp hy HR
                  gi_wp2
                  go_wp2_with fail
                  try rw [Exit.noGoto_ret]
                  go_returns
                  exact ⟨⟨_, rfl⟩, fun _ => False, fun _ h => h, fun _ h => h.elim, .inr ⟨_, HJ3.out, HPF.out⟩⟩
              · have HC2 : Hid (pre ++ (rowC t (l.drop (k + 1)) ++ closesD t b l) = closesD a b l) := Lib.hid (by rw [← HC.out, hdr, row_cons_no hd])
                have HU2 := Lib.hid (HU.out.g HJ.out ((G.refl wr).alloc (.cells #[.int .i64 q, .int .i64 s] 55)))
                clear hdr hx hq
                go_wp2_with fail
                go_roundg (m - (k + 1))
                case rel => exact ⟨k + 1, pre, by omega, rfl, by go_num, HC2, HU2⟩
                all_goals omega
            · have HC2 : Hid (pre ++ closesD t b l = closesD a b l) := Lib.hid (by rw [← HC.out, List.drop_of_length_le (by have := HM.out; omega)]; rfl)
              have hmt : mkB t = true := mk_iff.2 ⟨by omega, by omega⟩
              have HS := Lib.hid (HSN.out wr HU.out.rd t hmt)
              go_wp2_with fail
              refine HS.out.mono ?_
              rintro e0 w3 ⟨rfl, hg3⟩
              have HU3 := Lib.hid (HU.out.g HJ.out hg3)
              obtain ⟨T1, hT1⟩ : ∃ T, T = soonV t (b + 1) l := ⟨_, rfl⟩
              have HC3 : Hid (CAt a b l pre T1) := Lib.hid (by
                obtain ⟨x1, x2⟩ := HSP.out t
                have x3 := HLE.out t
                rw [← hT1] at x1 x2 x3
                refine ⟨?_, fun h => by have := (x1 h).1; omega, x3⟩
                by_cases h : T1 ≤ b
                · rw [if_pos h, ← (x1 h).2]; exact HC2.out
                · rw [if_neg h, ← HC2.out, x2 (by omega)])
              have HGT : Hid (T1 ≤ b → t < T1) := Lib.hid (fun h => by
                have := (HSP.out t).1
                rw [← hT1] at this
                have := (this h).1; omega)
              have HGM : Hid ((b + 1 - T1).toNat < (b + 1 - t).toNat) := Lib.hid (by have := HGT.out; omega)
              rw [← hT1]
              clear hT1 hg3 c1 c2 c3 HGT
              go_wp2_with fail
              go_roundg ((b + 1 - T1).toNat)
              case rel => exact ⟨pre, T1, rfl, rfl, rfl, HC3, HU3⟩
              all_goals (first | exact HGM.out | omega)
        · have hle' : decide (t ≤ b) = false := by simpa using hle
          have HE : Hid (pre = closesW a b l) := Lib.hid (by have := HC.out.cat; rw [if_neg hle, List.append_nil] at this; rw [HCW.out, this])
          have HJ2 := Lib.hid HU.out.j
          go_wp2_with fail
          go_returns
          exact ⟨⟨_, rfl⟩, fun _ => False, fun _ h => h, fun _ h => h.elim, .inl ⟨pre, HJ2.out, HE.out⟩⟩
  · have hnil : closesW a b l = [] := by
      unfold closesW; rw [HCV.out, if_neg he]
    have HE := Lib.hid (HNIL.out hnil)
    have hed : decide (e = 0) = false := by simpa using he
    clear HNIL hnil
    go_wp2_with fail
    go_returns
    exact HE.out _
end Go.Proofs.Ythhmmjpgefinmaa
