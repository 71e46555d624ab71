/- there and back: the walk of DiffBack -/
import Derived.Test.YthhjioehkgbphaaDiffK
import Derived.Test.YthhjioehkgbphaaDiffQ
import Derived.Test.YthhjioehkgbphaaDiffR
import Derived.Test.YthhjioehkgbphaaDiffS
import Derived.Test.YthhjioehkgbphaaDiffT
namespace Go.Proofs.Ythhjioehkgbphaa
set_option linter.unusedVariables false
set_option linter.unusedSimpArgs false
open Go.RowKit Go.Shelf
attribute [local go_sem] Oper.semAt_some

/-- rows that are gone through -/
structure RowsS (ls : List (List Val)) : Prop where
  text : ∀ l ∈ ls, ∀ x ∈ l, x.2.2.size ≤ maxLen
  wide : ∀ l ∈ ls, l.length ≤ 400
  many : ls.length ≤ 400
theorem RowsS.ok {ls : List (List Val)} (h : RowsS ls) : RowsOK ls := ⟨h.text, fun l hl => Nat.le_trans (h.wide l hl) (by omega), Nat.le_trans h.many (by omega)⟩
theorem RowsS.sub {ls ms : List (List Val)} (h : RowsS ls) (hs : ∀ l ∈ ms, l ∈ ls) (hn : ms.length ≤ 1000000) : RowsOK ms := ⟨fun l hl => h.text l (hs l hl), fun l hl => Nat.le_trans (h.wide l (hs l hl)) (by omega), hn⟩
/-- what Of tells, folded in -/
theorem step_of {W : World} {xs ys : List (List Val)} {vp vm : Value} (hx : RowsS xs) (hy : RowsS ys) (rx : rgt none xs = true) (ry : rgt none ys = true)
    (hp : RdrRV W vp (pls (mrgR xs ys))) (cp : ∀ p n c, vp = .slice p n c → n ≤ c) (hm : RdrRV W vm (mns (mrgR xs ys))) (cm : ∀ p n c, vm = .slice p n c → n ≤ c) :
    Step W xs ⟨vp, vm, pls (mrgR xs ys), mns (mrgR xs ys)⟩ ys := by
  have P := parts xs ys rx ry
  have hl := mrgR_len xs ys
  have h1 := hx.many
  have h2 := hy.many
  have h3 := pls_len (mrgR xs ys)
  have h4 := mns_len (mrgR xs ys)
  have b1 : (pls (mrgR xs ys)).length ≤ 1000000 := by omega
  have b2 : (mns (mrgR xs ys)).length ≤ 1000000 := by omega
  have b3 : (lft (mrgR xs (mns (mrgR xs ys)))).length ≤ 1000000 := by have := P.ll; omega
  exact ⟨⟨hp, cp, hy.sub (fun l hl => ((P.pm l).1 hl).1) b1⟩, ⟨hm, cm, hx.sub (fun l hl => ((P.mm l).1 hl).1) b2⟩, hx.ok, rx, P.rp, P.rm, P.f1, P.f2, hx.sub P.sub b3, P.fold⟩
theorem RdrRV.len0 {W : World} {v : Value} {ls : List (List Val)} (h : RdrRV W v ls) : ∃ p c, v = .slice p ls.length c := h.shape

set_option maxRecDepth 100000 in
set_option maxHeartbeats 1000000 in
theorem back_any (xs ys : List (List Val)) (va vb : Value) (w : World) (ha : RdrRV w va xs) (hb : RdrRV w vb ys) (hca : ∀ p n c, va = .slice p n c → n ≤ c) (hcb : ∀ p n c, vb = .slice p n c → n ≤ c)
    (tx : ∀ l ∈ xs, ∀ x ∈ l, x.2.2.size ≤ maxLen) (ty : ∀ l ∈ ys, ∀ x ∈ l, x.2.2.size ≤ maxLen) (wx : ∀ l ∈ xs, l.length ≤ 4398046511104) (wy : ∀ l ∈ ys, l.length ≤ 4398046511104) (nx : xs.length ≤ 5864062014805) (ny : ys.length ≤ 5864062014805) :
    Calls Try.prog 5 #[va, vb] w fun e w' => e = .returned (.bool true) ∧ G w w' := by
  obtain ⟨ap, ac, rfl⟩ := ha.shape
  obtain ⟨bp, bc, rfl⟩ := hb.shape
  have HA := Lib.hid ha
  have HB := Lib.hid hb
  have HCA := Lib.hid hca
  have HCB := Lib.hid hcb
  have HTX := Lib.hid (And.intro tx wx)
  have HTY := Lib.hid (And.intro ty wy)
  clear ha hb hca hcb tx ty wx wy
  go_enter Try.func5, Try.ntmps5
  go_wp2_with fail
  refine (awake_any w).mono ?_
  rintro e w1 ⟨rfl, hg1⟩
  go_wp2_with fail
  refine (size_any xs _ w1 (HA.out.g hg1) HTX.out.2 nx).mono ?_
  rintro e w' ⟨r1, rfl, ⟨s1, s2, hs1⟩, rfl⟩
  have HS1 := Lib.hid hs1
  clear hs1
  go_wp2_with fail
  refine (size_any ys _ w1 (HB.out.g hg1) HTY.out.2 ny).mono ?_
  rintro e w' ⟨r2, rfl, ⟨s3, s4, hs2⟩, rfl⟩
  have HS2 := Lib.hid hs2
  clear hs2
  by_cases hbig : 400 < r1 + r2
  · go_wp2_with fail
    go_ret
    exact ⟨rfl, hg1⟩
  have hbig' : decide (400 < r1 + r2) = false := by simpa using hbig
  have hX : RowsS xs := ⟨HTX.out.1, (HS1.out (by omega)).2, (HS1.out (by omega)).1⟩
  have hY : RowsS ys := ⟨HTY.out.1, (HS2.out (by omega)).2, (HS2.out (by omega)).1⟩
  have HX := Lib.hid hX
  have HY := Lib.hid hY
  clear HS1 HS2 HTX HTY hX hY hbig
  have HA1 := Lib.hid (⟨HA.out.g hg1, HCA.out, HX.out.ok⟩ : RowsIn w1 _ xs)
  have HB1 := Lib.hid (⟨HB.out.g hg1, HCB.out, HY.out.ok⟩ : RowsIn w1 _ ys)
  cases hr : (rgt none xs && rgt none ys)
  · have HN := Lib.hid (of_no xs ys _ _ w1 HA1.out HB1.out hr)
    have HR := Lib.hid hr
    clear hr
    go_wp2_with fail
    refine HN.out.mono ?_
    rintro e w2 ⟨rfl, hg2⟩
    have HQ1 := Lib.hid (dright_any xs _ w2 (HA1.out.rdr.g hg2) HX.out.text (fun l hl => Nat.le_trans (HX.out.wide l hl) (by omega)) (Nat.le_trans HX.out.many (by omega)))
    have HQ2 := Lib.hid (fun W (hW : G w2 W) => dright_any ys _ W (HB1.out.rdr.g (hg2.trans hW)) HY.out.text (fun l hl => Nat.le_trans (HY.out.wide l hl) (by omega)) (Nat.le_trans HY.out.many (by omega)) : ∀ W, G w2 W → Calls Try.prog 7 #[.slice bp ys.length bc] W _)
    have hg3 := hg1.trans hg2
    clear hg2 hg1 hbig'
    cases hrx : rgt none xs
    · rw [hrx] at HQ1
      clear hrx
      go_wp2_with fail
      refine HQ1.out.mono ?_
      rintro e w3 ⟨rfl, hg4⟩
      have hg5 := hg3.trans hg4
      go_wp2_with fail
      go_ret
      exact ⟨rfl, hg5⟩
    · rw [hrx] at HQ1
      have hry : rgt none ys = false := by have := HR.out; rw [hrx] at this; simpa using this
      rw [hry] at HQ2
      clear hrx hry
      go_wp2_with fail
      refine HQ1.out.mono ?_
      rintro e w3 ⟨rfl, hg4⟩
      have hg5 := hg3.trans hg4
      go_wp2_with fail
      refine (HQ2.out w3 hg4).mono ?_
      rintro e w4 ⟨rfl, hg6⟩
      have hg7 := hg5.trans hg6
      go_wp2_with fail
      go_ret
      exact ⟨rfl, hg7⟩
  simp only [Bool.and_eq_true] at hr
  obtain ⟨hrx, hry⟩ := hr
  have HRX := Lib.hid hrx
  have HRY := Lib.hid hry
  have P := Lib.hid (parts xs ys hrx hry)
  clear hrx hry
  go_wp2_with fail
  refine (of_yes xs ys _ _ w1 HA1.out.rdr HB1.out.rdr HCA.out HCB.out HX.out.ok HY.out.ok HRX.out HRY.out).mono ?_
  rintro e w2 ⟨vp, vm, rfl, hp, hm, hg2⟩
  obtain ⟨ps, hps⟩ : ∃ l, l = pls (mrgR xs ys) := ⟨_, rfl⟩
  obtain ⟨ms, hms⟩ : ∃ l, l = mns (mrgR xs ys) := ⟨_, rfl⟩
  rw [← hps] at hp
  rw [← hms] at hm
  have HPS := Lib.hid hps
  have HMS := Lib.hid hms
  clear hps hms
  obtain ⟨pp, pc, hpe⟩ := hp.rdr.shape
  subst hpe
  obtain ⟨mp, mc, hme⟩ := hm.rdr.shape
  subst hme
  have HP2 := Lib.hid (And.intro hp.rdr hp.caps)
  have HM2 := Lib.hid (And.intro hm.rdr hm.caps)
  have hg3 := hg1.trans hg2
  have HA2 := Lib.hid (HA1.out.g hg2)
  have HB2 := Lib.hid (HB1.out.g hg2)
  have HA3 := HA2
  clear hp hm hg1 hg2 HA1 HB1 hbig'
  -- the other way around
  go_wp2_with fail
  refine (of_yes ys xs _ _ w2 HB2.out.rdr HA2.out.rdr HCB.out HCA.out HY.out.ok HX.out.ok HRY.out HRX.out).mono ?_
  rintro e w3 ⟨vq, vn, rfl, hq, hn, hg2⟩
  rw [P.out.q, ← HMS.out] at hq
  rw [P.out.n, ← HPS.out] at hn
  obtain ⟨qp, qc, hqe⟩ := hq.rdr.shape
  subst hqe
  obtain ⟨np, nc, hne⟩ := hn.rdr.shape
  subst hne
  have HQ3 := Lib.hid hq.rdr
  have HN3 := Lib.hid hn.rdr
  have hg4 := hg3.trans hg2
  have h23 := hg2
  clear hq hn hg2 hg3
  -- folded in
  have hst : ∀ W, G w2 W → Step W xs ⟨.slice pp ps.length pc, .slice mp ms.length mc, ps, ms⟩ ys := fun W hW => by
    have h1 := HP2.out
    have h2 := HM2.out
    rw [HPS.out] at h1 ⊢
    rw [HMS.out] at h2 ⊢
    exact step_of HX.out HY.out HRX.out HRY.out (h1.1.g hW) h1.2 (h2.1.g hW) h2.2
  have hst2 : ∀ W, G w2 W → Step W ys ⟨.slice mp ms.length mc, .slice pp ps.length pc, ms, ps⟩ xs := fun W hW => by
    have h1 := HP2.out
    have h2 := HM2.out
    rw [HPS.out, ← P.out.n] at h1 ⊢
    rw [HMS.out, ← P.out.q] at h2 ⊢
    exact step_of HY.out HX.out HRY.out HRX.out (h2.1.g hW) h2.2 (h1.1.g hW) h1.2
  have HF1 := Lib.hid (fold_step xs ys _ _ w3 (HA2.out.rdr.g h23) HCA.out (hst w3 h23))
  have HF2 := Lib.hid (fun W (hW : G w2 W) => fold_step ys xs _ (.slice bp ys.length bc) W (HB2.out.rdr.g hW) HCB.out (hst2 W hW))
  clear hst hst2
  go_wp2_with fail
  refine HF1.out.mono ?_
  rintro e w4 ⟨vx, rfl, hx, hg2⟩
  obtain ⟨xp, xc, hxe⟩ := hx.rdr.shape
  subst hxe
  have HX4 := Lib.hid hx.rdr
  have h24 := h23.trans hg2
  have h34 := hg2
  have hg5 := hg4.trans hg2
  clear hx hg2 hg4 HF1
  go_wp2_with fail
  refine (HF2.out w4 h24).mono ?_
  rintro e w5 ⟨vy, rfl, hy, hg2⟩
  obtain ⟨yp, yc, hye⟩ := hy.rdr.shape
  subst hye
  have HY5 := Lib.hid hy.rdr
  have h45 := hg2
  have h35 := h34.trans hg2
  have h25 := h24.trans hg2
  have hg6 := hg5.trans hg2
  clear hy hg2 hg5 HF2 h34 h24
  have hpw : ∀ l ∈ ps, l.length ≤ 400 := fun l hl => HY.out.wide l ((P.out.pm l).1 (by rw [← HPS.out]; exact hl)).1
  have hmw : ∀ l ∈ ms, l.length ≤ 400 := fun l hl => HX.out.wide l ((P.out.mm l).1 (by rw [← HMS.out]; exact hl)).1
  have hpn : ps.length ≤ 1000000 := by have h1 := pls_len (mrgR xs ys); have h2 := mrgR_len xs ys; rw [← HPS.out] at h1; have := HX.out.many; have := HY.out.many; omega
  have hmn : ms.length ≤ 1000000 := by have h1 := mns_len (mrgR xs ys); have h2 := mrgR_len xs ys; rw [← HMS.out] at h1; have := HX.out.many; have := HY.out.many; omega
  have HPW := Lib.hid hpw
  have HMW := Lib.hid hmw
  clear hpw hmw
  have same : ∀ (ls : List (List Val)) (u v : Value) (W : World), RdrRV W u ls → RdrRV W v ls → ls.length ≤ 1000000 → (∀ l ∈ ls, l.length ≤ 400) → Calls Try.prog 13 #[u, v] W fun e w' => e = .returned (.bool true) ∧ G W w' := fun ls u v W h1 h2 h3 h4 => by
    have := sameVR_any ls ls u v W h1 h2 (by omega) (fun l hl => Nat.le_trans (h4 l hl) (by omega)) (fun l hl => Nat.le_trans (h4 l hl) (by omega))
    rwa [decide_eq_true rfl] at this
  have S1 := Lib.hid (same ms _ _ w5 (HQ3.out.g h35) (HM2.out.1.g h25) hmn HMW.out)
  have S2 := Lib.hid (fun W (hW : G w5 W) => same ps _ _ W (HN3.out.g (h35.trans hW)) (HP2.out.1.g (h25.trans hW)) hpn HPW.out)
  have S3 := Lib.hid (fun W (hW : G w5 W) => same ys _ _ W (HX4.out.g (h45.trans hW)) (HB2.out.rdr.g (h25.trans hW)) (Nat.le_trans HY.out.many (by omega)) HY.out.wide)
  have S4 := Lib.hid (fun W (hW : G w5 W) => same xs _ _ W (HY5.out.g hW) (HA2.out.rdr.g (h25.trans hW)) (Nat.le_trans HX.out.many (by omega)) HX.out.wide)
  clear same
  go_wp2_with fail
  refine S1.out.mono ?_
  rintro e w6 ⟨rfl, h56⟩
  go_wp2_with fail
  refine (S2.out w6 h56).mono ?_
  rintro e w7 ⟨rfl, hg2⟩
  have h57 := h56.trans hg2
  clear hg2
  go_wp2_with fail
  refine (S3.out w7 h57).mono ?_
  rintro e w8 ⟨rfl, hg2⟩
  have h58 := h57.trans hg2
  clear hg2
  go_wp2_with fail
  refine (S4.out w8 h58).mono ?_
  rintro e w9 ⟨rfl, hg2⟩
  have h29 := h25.trans (h58.trans hg2)
  have hg9 := hg6.trans (h58.trans hg2)
  clear hg2 h56 h57 h58 S1 S2 S3 S4 h25 h35 h45 hg6 h23
  go_wp2_with fail
  have hasV : ∀ (ls : List (List Val)) (l : List Val) (v u : Value) (b : Bool) (W : World), RdrRV W v ls → RdrV W u l → ls.length ≤ 1000000 → l.length ≤ 400 → (∀ x ∈ ls, x.length ≤ 400) → hasB ls l = b → Calls Try.prog 15 #[v, u] W fun e w' => e = .returned (.bool b) ∧ G W w' := fun ls l v u b W h1 h2 h3 h4 h5 h6 => by
    have := has_any ls l v u W h1 h2 h3 (by omega) (fun x hx => Nat.le_trans (h5 x hx) (by omega))
    rwa [h6] at this
  have HH := Lib.hid hasV
  clear hasV
  go_loopw [15] (fun i wr => ∃ k : Nat, k ≤ ps.length ∧ i = .int .i64 k ∧ G w2 wr ∧ G w wr) (fun i _ => ps.length - (intOf i).toNat)
  case atStart => exact ⟨0, by omega, rfl, h29, hg9⟩
  case round =>
    clear h29 hg9
    obtain ⟨k, hk, rfl, h2, hw2⟩ := hrel
    by_cases hlt : k < ps.length
    · obtain ⟨b, o, l, q', d', he, hl, hcell, hrow⟩ := HP2.out.1.row hlt
      subst he
      have hc := h2.cell hcell
      have hmem := List.mem_of_getElem? hl
      have hpm := (P.out.pm l).1 (by rw [← HPS.out]; exact hmem)
      have f1 : hasB xs l = false := Bool.eq_false_iff.2 fun h => hpm.2 (hasB_iff.1 h)
      have f2 : hasB ys l = true := hasB_iff.2 hpm.1
      have f3 : hasB ms l = false := Bool.eq_false_iff.2 fun h => hpm.2 ((P.out.mm l).1 (by rw [← HMS.out]; exact hasB_iff.1 h)).1
      have hlw := HPW.out l hmem
      have C1 := Lib.hid (HH.out xs l _ _ _ wr (HA2.out.rdr.g h2) (hrow.g h2) (Nat.le_trans HX.out.many (by omega)) hlw HX.out.wide f1)
      have C2 := Lib.hid (fun W (hW : G wr W) => HH.out ys l _ (.slice q' l.length d') _ W (HB2.out.rdr.g (h2.trans hW)) (hrow.g (h2.trans hW)) (Nat.le_trans HY.out.many (by omega)) hlw HY.out.wide f2)
      have C3 := Lib.hid (fun W (hW : G wr W) => HH.out ms l _ (.slice q' l.length d') _ W (HM2.out.1.g (h2.trans hW)) (hrow.g (h2.trans hW)) hmn hlw HMW.out f3)
      clear f1 f2 f3 hpm hmem hl hcell hrow
      go_wp2_with fail
      refine C1.out.mono ?_
      rintro e wa ⟨rfl, ha⟩
      have hc2 := ha.cell hc
      go_wp2_with fail
      refine (C2.out wa ha).mono ?_
      rintro e wb ⟨rfl, hb⟩
      have hab := ha.trans hb
      have hc3 := hab.cell hc
      clear hc2 hb ha
      go_wp2_with fail
      refine (C3.out wb hab).mono ?_
      rintro e wc ⟨rfl, hb⟩
      have hac := hab.trans hb
      have h2c := h2.trans hac
      have hwc := hw2.trans hac
      clear hb hab hac hc hc3 h2 hw2
      go_wp2_with fail
      go_roundw
      case rel => exact ⟨k + 1, by omega, by go_num, h2c, hwc⟩
      case measure => simp [intOf]; omega
    · go_wp2_with fail
      obtain ⟨wo, hwo⟩ : ∃ wo : World, wo = wr := ⟨_, rfl⟩
      rw [← hwo] at h2 hw2 ⊢
      clear hwo
      go_loopw [16] (fun i wr => ∃ k : Nat, k ≤ ms.length ∧ i = .int .i64 k ∧ G w2 wr ∧ G w wr) (fun i _ => ms.length - (intOf i).toNat)
      case atStart => exact ⟨0, by omega, rfl, h2, hw2⟩
      case round =>
        clear h2 hw2
        obtain ⟨k2, hk2, rfl, h2, hw2⟩ := hrel
        by_cases hlt2 : k2 < ms.length
        · obtain ⟨b, o, l, q', d', he, hl, hcell, hrow⟩ := HM2.out.1.row hlt2
          subst he
          have hc := h2.cell hcell
          have hmem := List.mem_of_getElem? hl
          have hpm := (P.out.mm l).1 (by rw [← HMS.out]; exact hmem)
          have f1 : hasB xs l = true := hasB_iff.2 hpm.1
          have f2 : hasB ys l = false := Bool.eq_false_iff.2 fun h => hpm.2 (hasB_iff.1 h)
          have hlw := HMW.out l hmem
          have C1 := Lib.hid (HH.out xs l _ _ _ wr (HA2.out.rdr.g h2) (hrow.g h2) (Nat.le_trans HX.out.many (by omega)) hlw HX.out.wide f1)
          have C2 := Lib.hid (fun W (hW : G wr W) => HH.out ys l _ (.slice q' l.length d') _ W (HB2.out.rdr.g (h2.trans hW)) (hrow.g (h2.trans hW)) (Nat.le_trans HY.out.many (by omega)) hlw HY.out.wide f2)
          clear f1 f2 hpm hmem hl hcell hrow
          go_wp2_with fail
          refine C1.out.mono ?_
          rintro e wa ⟨rfl, ha⟩
          have hc2 := ha.cell hc
          go_wp2_with fail
          refine (C2.out wa ha).mono ?_
          rintro e wb ⟨rfl, hb⟩
          have hab := ha.trans hb
          have h2c := h2.trans hab
          have hwc := hw2.trans hab
          clear hc2 hb ha hab hc h2 hw2
          go_wp2_with fail
          go_roundw
          case rel => exact ⟨k2 + 1, by omega, by go_num, h2c, hwc⟩
          case measure => simp [intOf]; omega
        · have hcnt := P.out.cnt
          rw [← HPS.out, ← HMS.out] at hcnt
          have hz : (ys.length : Int) = (xs.length : Int) + (ps.length : Int) - (ms.length : Int) := by omega
          have heq : ((ys.length : Int) == (xs.length : Int) + (ps.length : Int) - (ms.length : Int)) = true := by simpa using hz
          have hxn := HX.out.many
          have R1 := Lib.hid (dright_any ps _ wr (HP2.out.1.g h2) (fun l hl => HY.out.text l ((P.out.pm l).1 (by rw [← HPS.out]; exact hl)).1) (fun l hl => Nat.le_trans (HPW.out l hl) (by omega)) (by omega))
          have R2 := Lib.hid (fun W (hW : G wr W) => dright_any ms _ W (HM2.out.1.g (h2.trans hW)) (fun l hl => HX.out.text l ((P.out.mm l).1 (by rw [← HMS.out]; exact hl)).1) (fun l hl => Nat.le_trans (HMW.out l hl) (by omega)) (by omega) : ∀ W, G wr W → Calls Try.prog 7 #[.slice mp ms.length mc] W _)
          rw [show rgt none ps = true from by rw [HPS.out]; exact P.out.rp] at R1
          rw [show rgt none ms = true from by rw [HMS.out]; exact P.out.rm] at R2
          clear hcnt hz
          go_wp2_with fail
          refine R1.out.mono ?_
          rintro e wa ⟨rfl, ha⟩
          go_wp2_with fail
          refine (R2.out wa ha).mono ?_
          rintro e wb ⟨rfl, hb⟩
          have hfin := hw2.trans (ha.trans hb)
          go_wp2_with fail
          go_ret
          exact ⟨rfl, hfin⟩
end Go.Proofs.Ythhjioehkgbphaa
