/- EdgeSorts: the walk -/
import Derived.Test.YtfdajignnnhnmaaSortKe
import Derived.Test.YtfdajignnnhnmaaSortRf
namespace Go.Proofs.Ytfdajignnnhnmaa
set_option linter.unusedVariables false
set_option linter.unusedSimpArgs false
open Go.RowKit Go.Shelf
attribute [local go_sem] Oper.semAt_some

theorem lent_rdr {W : World} {base : Nat} {v : Value} {L : List Edg} (h : LentEs W base v L) (hE : ∀ E ∈ L, EdgAt W E) : ∃ M, RdrE W v M ∧ M.length = L.length ∧ M.map outE = L.map outE := by
  obtain ⟨g, c, M, rfl, hown, hL⟩ := h
  have ht := rdr_of_owns (ownsRow_take (n := L.length) (m := 12) hown ⟨g, rfl⟩)
  rw [ecs_take, List.take_append_of_le_length (by rw [hL.len]; exact Nat.le_refl _), List.take_of_length_le (by rw [hL.len]; exact Nat.le_refl _)] at ht
  refine ⟨M, ⟨by rw [hL.len]; exact ht, fun F hF => ?_⟩, hL.len, ?_⟩
  · obtain ⟨j, hj, he⟩ := List.getElem_of_mem hF
    have hjL : j < L.length := by rw [← hL.len]; exact hj
    obtain ⟨u, b, hb, h1, h2⟩ := hL.each j hjL
    have h3 : eat M j = F := eat_of (by rw [List.getElem?_eq_getElem hj, he])
    rw [← h3, h1]
    exact h2.at (hE _ (List.mem_of_getElem? (eat_get hjL)))
  · apply List.ext_getElem?
    intro j
    rw [List.getElem?_map, List.getElem?_map]
    by_cases hj : j < L.length
    · obtain ⟨u, b, hb, h1, h2⟩ := hL.each j hj
      rw [eat_get hj, eat_get (by rw [hL.len]; exact hj), h1]; rfl
    · rw [List.getElem?_eq_none (l := M) (by rw [hL.len]; omega), List.getElem?_eq_none (l := L) (by omega)]
theorem out_ps {A B : List Edg} (h : A.map outE = B.map outE) (hB : ∀ E ∈ B, E.ps.length ≤ 1000000) : ∀ E ∈ A, E.ps.length ≤ 1000000 := fun E hE => by
  have : outE E ∈ B.map outE := by rw [← h]; exact List.mem_map_of_mem hE
  obtain ⟨F, hF, he⟩ := List.mem_map.1 this
  have h2 : F.ps = E.ps := congrArg (fun o : Out => o.2.2.2.2) he
  rw [← h2]; exact hB F hF
theorem same_sorted {n : Nat} {M N L' R l : List Edg} (hM : N.map outE = M.map outE) (hMl : M.map outE = l.map outE) (hst : Stab 0 n N L') (hs : Srt 0 n L') (hl : L'.length = n) (hR : Srt 0 n R) (hRl : R.length = n) (hf : ∀ k, (R.map outE).filter (isO k) = (l.map outE).filter (isO k)) : L'.map outE = R.map outE := by
  refine osrt_uniq _ _ (osrt_of hl hs) (osrt_of hRl hR) (fun k => ?_)
  rw [hf k, filter_out, hst.filt, ← filter_out, hM, hMl]
theorem LentEs.fr2 {W W5 W6 : World} {base : Nat} {v : Value} {L : List Edg} (h : LentEs W base v L) (hg : G W W5) (hf : Fr (fun q => W.heap.size ≤ q) W5 W6) : LentEs W6 base v L := by
  obtain ⟨g, c, M, h1, h2, h3⟩ := h
  refine ⟨g, c, M, h1, hf.ownsRow (hg.ownsRow h2) (fun q hq e => by have := (h2.lt q hq).2; omega), h3.len, fun i hi => ?_⟩
  obtain ⟨u, b, hb, h4, h5⟩ := h3.each i hi
  exact ⟨u, b, hb, h4, (h5.g hg).fr hf (fun q hq e => by have := (Lent.lt h5 q hq).2; omega)⟩
set_option maxHeartbeats 2000000 in
theorem sorts_any (l : List Edg) (v : Value) (w : World) (h : RdrE w v l) (hn : l.length ≤ 4398046511104) :
    Calls Try.prog 6 #[v] w fun e w' => e = .returned (.bool true) ∧ G w w' := by
  have HS := Lib.hid (size_any l v w h hn)
  have H := Lib.hid h
  obtain ⟨p, c, rfl⟩ := h.shape
  obtain ⟨n, hnn⟩ : ∃ n, n = l.length := ⟨_, rfl⟩
  rw [← hnn] at HS H ⊢
  have HN := Lib.hid hnn
  clear h hn hnn
  go_enter Try.func6, Try.ntmps6
  go_wp2_with fail
  refine HS.out.mono ?_
  rintro e w0 ⟨z, rfl, hz1, hz2, rfl⟩
  by_cases hbig : 2000 < z
  · have hbI : (2000 : Int) < (z : Int) := by omega
    clear hz2
    go_wp2_with fail
    refine (awake_any w).mono ?_
    rintro e w1 ⟨rfl, hg⟩
    go_wp2_with fail
    go_ret
    exact ⟨rfl, hg⟩
  · have hbI : ¬ (2000 : Int) < (z : Int) := by omega
    have hsum := hz2 (by omega)
    have HNL := Lib.hid (show l.length ≤ 2000 by have h9 := HN.out; omega)
    have HPS := Lib.hid (show ∀ E ∈ l, E.ps.length ≤ 1000000 from fun E hE => by have := esum_mem hE; omega)
    have HLE := Lib.hid (lentEs_any l _ w H.out (by have := HNL.out; omega) HPS.out)
    clear hz2 hsum hbig
    go_wp2_with fail
    refine HLE.out.mono ?_
    rintro e w1 ⟨u, rfl, hle, hg1⟩
    obtain ⟨M, hrm, hml, hmo⟩ := lent_rdr hle (fun E hE => (H.out.each E hE).g hg1)
    have HSO := Lib.hid (sort_any M u w1 hrm (by rw [hml]; have := HNL.out; omega) (out_ps hmo HPS.out))
    have HK1 := Lib.hid hle
    have HG1 := Lib.hid hg1
    have HMO := Lib.hid (And.intro hmo hml)
    clear hle hrm hml hmo hg1 HLE
    go_wp2_with fail
    refine HSO.out.mono ?_
    rintro e w2 ⟨s, N, L', rfl, hown, hNo, hst, hsr, hoe, hg2⟩
    have HRS := Lib.hid (rsort_any l _ w2 (H.out.g (HG1.out.trans hg2)) (by have := HNL.out; omega) HPS.out)
    have HX := Lib.hid (And.intro hown (And.intro hNo (And.intro hst (And.intro hsr hoe))))
    have HG2 := Lib.hid hg2
    clear hown hNo hst hsr hoe hg2 HSO
    go_wp2_with fail
    refine HRS.out.mono ?_
    rintro e w3 ⟨r, R, rfl, hro, hrs, hrf, hre, hg3⟩
    have hLl : L'.length = l.length := by have := HX.out.1.1; rw [ecs_len] at this; rw [← HMO.out.2]; omega
    have hRl : R.length = l.length := by have := hro.1; rw [ecs_len] at this; omega
    have hsame := same_sorted HX.out.2.1 HMO.out.1 (n := l.length) (by rw [← HMO.out.2]; exact HX.out.2.2.1) (by rw [← HMO.out.2]; exact HX.out.2.2.2.1) hLl hrs hRl hrf
    have HSE := Lib.hid (sameEs_any L' R s r w3 ⟨by have := rdr_of_owns HX.out.1; rw [HMO.out.2, ← hLl] at this; exact this.g hg3, fun E hE => (HX.out.2.2.2.2 E hE).at.g hg3⟩ ⟨by rw [hRl]; exact rdr_of_owns hro, hre⟩ (by rw [hLl]; have := HNL.out; omega) (by rw [hRl]; have := HNL.out; omega))
    rw [sameL_out.2 hsame] at HSE
    have HG3 := Lib.hid hg3
    have HLL := Lib.hid hLl
    clear hro hrs hrf hre hg3 hLl hRl hsame HRS
    go_wp2_with fail
    refine HSE.out.mono ?_
    rintro e w4 ⟨rfl, hg4⟩
    have g24 := HG3.out.trans hg4
    have g14 := HG2.out.trans g24
    have HKE := Lib.hid (keptEs_yes l u _ w.heap.size w4 (HK1.out.g g14) (H.out.g (HG1.out.trans g14)) (by have := HNL.out; omega) HPS.out)
    have HG24 := Lib.hid g24
    clear hg4 g24 g14 HSE
    go_wp2_with fail
    refine HKE.out.mono ?_
    rintro e w5 ⟨rfl, hg5⟩
    have g25 := HG24.out.trans hg5
    have HOV := Lib.hid (overEs_any L' s M.length w1.heap.size w5 (g25.ownsRow HX.out.1) (fun E hE => ⟨E.ps.length, out_ps HX.out.2.1 (out_ps HMO.out.1 HPS.out) E (HX.out.2.2.1.mem.1 hE), room_of ((HX.out.2.2.2.2 E hE).g g25).own⟩) (by rw [HMO.out.2]; have := HNL.out; omega))
    have g15 := HG2.out.trans g25
    have HGA := Lib.hid (HG1.out.trans g15)
    have HG15 := Lib.hid g15
    clear hg5 g25 g15 HKE
    go_wp2_with fail
    refine HOV.out.mono ?_
    rintro e w6 ⟨⟨u6, rfl⟩, hf6⟩
    have g06 : G w w6 := g_of_fr HGA.out hf6 (fun q e => by have := HG1.out.size; omega)
    have HKF := Lib.hid (keptEs_yes l u _ w.heap.size w6 (HK1.out.fr2 HG15.out hf6) (H.out.g g06) (by have := HNL.out; omega) HPS.out)
    have HG6 := Lib.hid g06
    clear hf6 g06 HOV
    go_wp2_with fail
    refine HKF.out.mono ?_
    rintro e w7 ⟨rfl, hg7⟩
    have HG7 := Lib.hid (HG6.out.trans hg7)
    clear hg7 HKF
    go_wp2_with fail
    refine (awake_any w7).mono ?_
    rintro e w8 ⟨rfl, hg8⟩
    go_wp2_with fail
    go_ret
    exact ⟨rfl, HG7.out.trans hg8⟩
end Go.Proofs.Ytfdajignnnhnmaa
