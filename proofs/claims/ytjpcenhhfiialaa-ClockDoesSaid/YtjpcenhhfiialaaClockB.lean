/- the closes, gone through -/
import Derived.Test.YtjpcenhhfiialaaClockP
import Derived.Test.YtjpcenhhfiialaaSeq
import Derived.BigQuiet
import Derived.Deep.CutBlock
namespace Go.Proofs.Ytjpcenhhfiialaa
set_option linter.unusedVariables false
open Go.RowKit
attribute [local go_sem] Oper.semAt_some

theorem closes_seq (a b s : Int) (ba bb bs : Nat) (w : World) (ca : w.cell? ⟨ba, 0, none⟩ = some (.int .i64 a)) (cb : w.cell? ⟨bb, 0, none⟩ = some (.int .i64 b)) (cs : w.cell? ⟨bs, 0, none⟩ = some (.int .i64 s)) :
    Seq Try.prog 29 #[.pointer (some ⟨ba, 0, none⟩), .pointer (some ⟨bb, 0, none⟩), .pointer (some ⟨bs, 0, none⟩)] (fun x : Int => #[.int .i64 x])
      (fun k => k = ba ∨ k = bb ∨ k = bs) (fun _ => False) (fun xs _ _ => xs = closesL a b s) (fun pre _ _ => pre <+: closesL a b s) (fun pre x => pre ++ [x] <+: closesL a b s) w := by
  intro l J Jx W hW hJ hJx hY h0
  replace ca := hW.cell ca
  replace cb := hW.cell cb
  replace cs := hW.cell cs
  have HY := Lib.hid hY
  have HJ := Lib.hid hJ
  have HJx := Lib.hid hJx
  have H0 := Lib.hid h0
  clear hY hJ hJx h0
  show Calls Try.prog 29 #[.func (.yield l) #[] #[], .pointer (some ⟨ba, 0, none⟩), .pointer (some ⟨bb, 0, none⟩), .pointer (some ⟨bs, 0, none⟩)] W _
  by_cases hok : (mk a && mk b && wn s) = true
  · have hok' := hok
    simp only [Bool.and_eq_true] at hok'
    obtain ⟨⟨ha, hb⟩, hs⟩ := hok'
    obtain ⟨ha1, ha2⟩ := mk_iff.1 ha
    obtain ⟨hb1, hb2⟩ := mk_iff.1 hb
    obtain ⟨hs1, hs2⟩ := wn_iff.1 hs
    obtain ⟨q1, q2⟩ := past_bd hs1 ha2
    obtain ⟨q3, q4⟩ := past_bd hs1 hb2
    have hc : closesL a b s = (List.range (countN a b s).toNat).map (closeAt a s) := by simp only [closesL, hok, if_true]
    have hn0 : 0 ≤ countN a b s := by unfold countN; omega
    have hn1 : countN a b s ≤ 1099511627776 := by unfold countN; omega
    have hm := past_mul (w := a) hs1
    have hm0 : 0 ≤ past a s * s := Int.mul_nonneg q1 (by omega)
    have HC := Lib.hid hc
    have HA := Lib.hid ha
    have HB := Lib.hid hb
    have HS := Lib.hid hs
    clear hok hc ha hb hs
    go_enter Try.func29, Try.ntmps29
    go_wp2_with fail
    refine (count_yes _ _ _ _ HA.out HB.out HS.out).mono ?_
    rintro e w' ⟨rfl, hg⟩
    have ca1 := hg.cell ca
    have cs1 := hg.cell cs
    go_wp2_with fail
    go_quiet ((go_at_call 28; exact Calls.quiet_of_same ((past_any _ _ _ hs1 ha2).mono fun _ _ ⟨h, e⟩ => ⟨h, e.symm⟩)))
    go_wp2_with fail
    have h1 := (HJ.out []).g H0.out (hg.drewN nq)
    have h2 := (hg.drewN nq).size
    have h3 : (w'.drewN nq).cell? ⟨bs, 0, none⟩ = some (.int .i64 s) := cs1
    go_loopw [7, 23] (fun c i wr => ∃ (k : Nat) (cv : Int), (k : Int) ≤ countN a b s ∧ i = .int .i64 k ∧ c = .int .i64 cv ∧ 0 ≤ cv ∧ Hid (cv = past a s * s + k * s) ∧ wr.cell? ⟨bs, 0, none⟩ = some (.int .i64 s) ∧
      J ((List.range k).map (closeAt a s)) (fun _ => False) wr ∧ W.heap.size ≤ wr.heap.size) (fun _ i _ => (countN a b s).toNat - (intOf i).toNat)
    case atStart => exact ⟨0, past a s * s, by omega, rfl, rfl, hm0, (by simp : past a s * s = past a s * s + ((0 : Nat) : Int) * s), h3, h1, h2⟩
    case round =>
      clear h1 h2 h3 ca1 cs1
      obtain ⟨k, cv, hk, rfl, rfl, hcv, hcve, hcs, hj, hsz⟩ := hrel
      by_cases hlt : (k : Int) < countN a b s
      · have hcl := closeAt_le hs1 hlt
        have hcx : cv + s = closeAt a s k := by rw [hcve.out]; unfold closeAt; rw [Int.add_mul]; omega
        have hcb : cv + s ≤ 1099511627776 := by rw [hcx]; omega
        have hpre : (List.range k).map (closeAt a s) ++ [cv + s] <+: closesL a b s := by
          rw [HC.out, hcx, ← range_map_succ]; exact range_map_prefix _ (by omega)
        have hy := HY.out _ (cv + s) (fun _ => False) wr (fun _ h => h.elim) (fun _ h => h.elim) hsz hj hpre
        have HX := Lib.hid hcx
        have HJ' := Lib.hid hj
        have HP := Lib.hid hpre
        have Hy := Lib.hid hy
        clear hcl hcx hj hpre hy
        go_upto_region 6 with fail
        obtain ⟨fn, tmps, assign, body, hy, hR⟩ := Hy.out
        refine (wpIn_wide (n := 3)).1 ?_
        gi_wp2
        refine hR.mono ?_
        rintro e W3 hrp
        rcases hrp.elim with ⟨rfl, hfr, hj3⟩ | ⟨rfl, hfr, hj3⟩
        · have hcs3 := hfr.cell (fun h => h (.inr (.inr (.inr rfl)))) hcs
          have hsz3 := hfr.size
          have HJ3 := Lib.hid hj3
          clear hj3 hfr hrp
          gi_wp2
          go_wp2_with fail
          go_roundw
          case rel => exact ⟨k + 1, cv + s, by omega, by go_num, rfl, by omega, (show cv + s = past a s * s + ((k + 1 : Nat) : Int) * s by rw [HX.out]; unfold closeAt; rfl), hcs3, by rw [range_map_succ, ← HX.out]; exact HJ3.out, by omega⟩
          case measure => simp [intOf]; omega
        · have HJ3 := Lib.hid hj3
          clear hj3 hfr hrp
          gi_wp2
          go_wp2_with fail
          go_returns
          exact ⟨⟨_, rfl⟩, fun _ => False, fun _ h => h, fun _ h => h.elim, .inr ⟨_, HJ3.out, HP.out⟩⟩
      · go_wp2_with fail
        go_returns
        have : k = (countN a b s).toNat := by omega
        subst this
        exact ⟨⟨_, rfl⟩, fun _ => False, fun _ h => h, fun _ h => h.elim, .inl ⟨_, hj, HC.out.symm⟩⟩
  · simp only [Bool.not_eq_true] at hok
    have hnil : closesL a b s = [] := by simp [closesL, hok]
    have H := Lib.hid hok
    clear hok
    have HN := Lib.hid hnil
    clear hnil
    go_enter Try.func29, Try.ntmps29
    go_wp2_with fail
    refine (count_no _ _ _ _ H.out).mono ?_
    rintro e w' ⟨rfl, hg⟩
    go_wp2_with fail
    go_returns
    exact ⟨⟨_, rfl⟩, fun _ => False, fun _ h => h, fun _ h => h.elim, .inl ⟨[], (HJ.out []).g H0.out hg, HN.out.symm⟩⟩
end Go.Proofs.Ytjpcenhhfiialaa
