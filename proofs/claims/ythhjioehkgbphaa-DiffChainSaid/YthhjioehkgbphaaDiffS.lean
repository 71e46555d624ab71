/- whether a row is one of some; closes, one behind the other -/
import Derived.Test.YthhjioehkgbphaaDiffN
import Derived.Test.YthhjioehkgbphaaRound
import Derived.Deep.LoopGhost
import Derived.Deep.QuietTactic
namespace Go.Proofs.Ythhjioehkgbphaa
set_option linter.unusedVariables false
set_option linter.unusedSimpArgs false
open Go.RowKit Go.Shelf
attribute [local go_sem] Oper.semAt_some

def hasB (ls : List (List Val)) (l : List Val) : Bool := ls.any fun x => decide (x = l)
theorem hasB_iff {ls : List (List Val)} {l : List Val} : hasB ls l = true ↔ l ∈ ls := by simp [hasB]
theorem ne_rows {ls : List (List Val)} {l x : List Val} {k k2 : Nat} {xv yv : Val} (HR : ∀ j x, j < k → ls[j]? = some x → x ≠ l) (hx : ls[k]? = some x) (hxv : x[k2]? = some xv) (hyv : l[k2]? = some yv) (hne : xv ≠ yv) :
    ∀ j y, j < k + 1 → ls[j]? = some y → y ≠ l := by
  intro j y hj hy
  rcases (by omega : j < k ∨ j = k) with h | rfl
  · exact HR j y h hy
  · rintro rfl
    rw [hx] at hy
    cases hy
    rw [hxv] at hyv
    exact hne (Option.some.inj hyv)
set_option maxHeartbeats 1000000 in
theorem has_any (ls : List (List Val)) (l : List Val) (v u : Value) (w : World) (hv : RdrRV w v ls) (hu : RdrV w u l) (hn : ls.length ≤ 1000000) (hl : l.length ≤ 1000000) (hw : ∀ x ∈ ls, x.length ≤ 4398046511104) :
    Calls Try.prog 15 #[v, u] w fun e w' => e = .returned (.bool (hasB ls l)) ∧ G w w' := by
  obtain ⟨p, c, rfl⟩ := hv.shape
  obtain ⟨q, d, rfl⟩ := hu.shape
  obtain ⟨n, hnn⟩ : ∃ n, n = ls.length := ⟨_, rfl⟩
  obtain ⟨m, hmm⟩ : ∃ m, m = l.length := ⟨_, rfl⟩
  rw [← hnn] at hn
  rw [← hmm] at hl
  simp only [← hnn, ← hmm]
  have HV := Lib.hid hv
  have HU := Lib.hid hu
  have HW := Lib.hid hw
  have HN := Lib.hid hnn
  have HM := Lib.hid hmm
  clear hv hu hw hnn hmm
  go_enter Try.func15, Try.ntmps15

  go_wp2_with fail
  go_step3
  go_wp2_with fail
  go_step3
  go_wp2_with fail
  go_loopg [4, 11] n (fun g is i wr => ∃ k : Nat, k ≤ n ∧ g = n - k ∧ i = .int .i64 k ∧ is = .bool false ∧ Hid (∀ j x, j < k → ls[j]? = some x → x ≠ l) ∧ G w wr)
  case atStart => exact ⟨0, by omega, by omega, rfl, rfl, (fun j x h => absurd h (by omega) : ∀ j x, j < 0 → ls[j]? = some x → x ≠ l), G.refl w⟩
  case round =>
    obtain ⟨k, hk, rfl, rfl, rfl, HR, hg⟩ := hrel
    by_cases hlt : k < n
    · obtain ⟨b, o, x, q', d', rfl, hx, hcell, hrow⟩ := HV.out.row (i := k) (by have := HN.out; omega)
      have hc := hg.cell hcell
      have HX := Lib.hid hx
      have HROW := Lib.hid hrow
      have hxl := HW.out x (List.mem_of_getElem? hx)
      clear hx hcell hrow
      obtain ⟨nx, hnx⟩ : ∃ nx, nx = x.length := ⟨_, rfl⟩
      rw [← hnx] at hc hxl HROW
      have HNX := Lib.hid hnx
      clear hnx
      by_cases hlen : nx = m
      · subst hlen
        go_wp2_with fail
        go_loopg [22] nx (fun g i wr2 => ∃ k2 : Nat, k2 ≤ nx ∧ g = nx - k2 ∧ i = .int .i64 k2 ∧ Hid (x.take k2 = l.take k2) ∧ G w wr2)
        case atStart => exact ⟨0, by omega, by omega, rfl, (rfl : x.take 0 = l.take 0), hg⟩
        case round =>
          obtain ⟨k2, hk2, rfl, rfl, HT, hg2⟩ := hrel
          by_cases hlt2 : k2 < nx
          · obtain ⟨b1, o1, xv, rfl, hxv, c1, c2, c3⟩ := HROW.out.cells (k := k2) (by have := HNX.out; omega)
            obtain ⟨b2, o2, yv, rfl, hyv, d1, d2, d3⟩ := HU.out.cells (k := k2) (by have := HM.out; omega)
            have e1 := hg2.cell c1
            have e2 := hg2.cell c2
            have e3 := hg2.cell c3
            have e4 := hg2.cell d1
            have e5 := hg2.cell d2
            have e6 := hg2.cell d3
            have l4 := World.block_lt_of_cell? wr _ e4
            have HXV := Lib.hid hxv
            have HYV := Lib.hid hyv
            clear c1 c2 c3 d1 d2 d3 hxv hyv
            obtain ⟨xk, xn, xt⟩ := xv
            obtain ⟨yk, yn, yt⟩ := yv
            simp only at e1 e2 e3 e4 e5 e6
            by_cases hk1 : xk = yk
            · subst hk1
              by_cases hn1 : xn = yn
              · subst hn1
                by_cases ht1 : xt = yt
                · subst ht1
                  have HT2 := Lib.hid (show x.take (k2 + 1) = l.take (k2 + 1) by rw [List.take_add_one, List.take_add_one, HT.out, HXV.out, HYV.out])
                  go_wp2_with fail
                  go_quiet (fail)
                  go_wp2_with fail
                  go_roundg (nx - (k2 + 1))
                  case rel => exact ⟨k2 + 1, by omega, rfl, by go_num, HT2, (hg2.alloc _).drewN _⟩
                  all_goals omega
                · have ht2 : ¬ xt.toList = yt.toList := fun e => ht1 (by have := str_beq xt yt; rw [beq_iff_eq.2 e] at this; exact of_decide_eq_true this.symm)
                  have HR' := Lib.hid (ne_rows HR.out HX.out HXV.out HYV.out (fun e => ht1 (congrArg (·.2.2) e)))
                  clear ht1
                  go_wp2_with fail
                  go_quiet (fail)
                  go_wp2_with fail
                  go_roundg (n - (k + 1))
                  case rel => exact ⟨k + 1, by omega, rfl, by go_num, rfl, HR', (hg2.alloc _).drewN _⟩
                  all_goals omega
              · have HR' := Lib.hid (ne_rows HR.out HX.out HXV.out HYV.out (fun e => hn1 (congrArg (·.2.1) e)))
                go_wp2_with fail
                go_quiet (fail)
                go_wp2_with fail
                go_roundg (n - (k + 1))
                case rel => exact ⟨k + 1, by omega, rfl, by go_num, rfl, HR', (hg2.alloc _).drewN _⟩
                all_goals omega
            · have HR' := Lib.hid (ne_rows HR.out HX.out HXV.out HYV.out (fun e => hk1 (congrArg (·.1) e)))
              go_wp2_with fail
              go_quiet (fail)
              go_wp2_with fail
              go_roundg (n - (k + 1))
              case rel => exact ⟨k + 1, by omega, rfl, by go_num, rfl, HR', (hg2.alloc _).drewN _⟩
              all_goals omega
          · have hlt3 : decide (k2 < nx) = false := by simpa using hlt2
            have hF : hasB ls l = true := hasB_iff.2 (by
              have h1 := HT.out
              rw [List.take_of_length_le (by have := HNX.out; omega), List.take_of_length_le (by have := HM.out; omega)] at h1
              rw [← h1]; exact List.mem_of_getElem? HX.out)
            have HF := Lib.hid hF
            clear hF
            go_wp2_with fail
            try rw [Exit.noGoto_ret]
            go_ret
            exact ⟨by rw [HF.out]; rfl, hg2⟩
      · have hne : ((nx : Int) != (m : Int)) = true := by simp; omega
        have HR' := Lib.hid (fun j y hj hy => by
          rcases (by omega : j < k ∨ j = k) with h | rfl
          · exact HR.out j y h hy
          · intro e; subst e; rw [HX.out] at hy; cases hy; exact hlen (by rw [HNX.out, HM.out]) : ∀ j y, j < k + 1 → ls[j]? = some y → y ≠ l)
        clear hlen
        go_wp2_with fail
        go_roundg (n - (k + 1))
        case rel => exact ⟨k + 1, by omega, rfl, by go_num, rfl, HR', hg⟩
        all_goals omega
    · go_wp2_with fail
      rw [Exit.noGoto_ret]
      go_ret
      have hF : hasB ls l = false := ( Bool.eq_false_iff.2 fun h => by
        obtain ⟨j, hj⟩ := List.getElem?_of_mem (hasB_iff.1 h)
        exact HR.out j l (by have := (List.getElem?_eq_some_iff.1 hj).1; have := HN.out; omega) hj rfl)
      exact ⟨by rw [hF]; rfl, hg⟩
end Go.Proofs.Ythhjioehkgbphaa
