/- rows of edges in order: the program's -/
import Derived.Test.YtfdajignnnhnmaaSortY
import Derived.Test.YtfdajignnnhnmaaEdgeY
namespace Go.Proofs.Ytfdajignnnhnmaa
set_option linter.unusedVariables false
set_option linter.unusedSimpArgs false
open Go.RowKit Go.Shelf
attribute [local go_sem] Oper.semAt_some

/-- an edge whose props lie in a block of their own -/
structure OwnE (W : World) (base : Nat) (E : Edg) : Prop where
  own : W.ownsRow base 56 4 E.v E.ps.length (pcells E.ps)
  n : E.ps.length ≤ 4398046511104
  ps : PSz E.ps
  f : E.f.size ≤ maxLen
  t : E.t.size ≤ maxLen
  l : E.l.size ≤ maxLen
theorem OwnE.at {W : World} {base : Nat} {E : Edg} (h : OwnE W base E) : EdgAt W E := ⟨rdr_of_owns h.own, h.n, h.ps, h.f, h.t, h.l⟩
theorem OwnE.fr {S : Nat → Prop} {W W' : World} {base : Nat} {E : Edg} (h : OwnE W base E) (hf : Fr S W W') (hs : ∀ g, E.v.ownBlock = some g → ¬ S g) : OwnE W' base E := ⟨hf.ownsRow h.own hs, h.n, h.ps, h.f, h.t, h.l⟩
theorem OwnE.g {W W' : World} {base : Nat} {E : Edg} (h : OwnE W base E) (hg : G W W') : OwnE W' base E := h.fr (hg.fr (fun _ => False)) (fun _ _ h => h)
theorem OwnE.isE {W : World} {base : Nat} {E : Edg} (h : OwnE W base E) : IsE E := h.at.isE
theorem own_type {W : World} {base g : Nat} {e : TypeId} {size n : Nat} {v : Value} {xs : List Value} (h : W.ownsRow base e size v n xs) (hg : v.ownBlock = some g) : ∃ cur, W.heap[g]? = some (.cells cur e (0, 0)) := by
  rcases h.2 with ⟨rfl, -⟩ | ⟨g', cap, cur, rfl, -, hh, -⟩
  · cases hg
  · cases hg; exact ⟨cur, hh⟩
theorem apart_ep {W : World} {base base' g : Nat} {E : Edg} {n : Nat} {v : Value} {xs : List Value} (h : OwnE W base E) (hr : W.ownsRow base' 27 5 v n xs) (hg : v.ownBlock = some g) : ∀ k, E.v.ownBlock = some k → k ≠ g := by
  rintro k hk rfl
  obtain ⟨c1, h1⟩ := own_type h.own hk
  obtain ⟨c2, h2⟩ := own_type hr hg
  rw [h1] at h2
  simp at h2
theorem ecs_setv : ∀ (l : List Edg) (k : Nat) (E : Edg) (u : Value), l[k]? = some E → ecs (l.set k (lentE E u)) = (ecs l).set (k * 5 + 4) u
  | [], k, E, u, h => by cases h
  | y :: l, 0, E, u, h => by cases h; rfl
  | y :: l, k + 1, E, u, h => by
    rw [show (k + 1) * 5 + 4 = (k * 5 + 4) + 5 by omega]
    simp only [List.set_cons_succ, ecs]
    rw [ecs_setv l k E u (by simpa using h)]
theorem eat_set {L : List Edg} {k : Nat} {E : Edg} (hk : k < L.length) (q : Nat) : eat (L.set k E) q = if q = k then E else eat L q := by
  unfold eat
  rw [List.getD_eq_getElem?_getD, List.getD_eq_getElem?_getD, List.getElem?_set]
  by_cases h : k = q
  · subst h; simp [hk]
  · simp [h, Ne.symm h]
set_option maxHeartbeats 2000000 in
theorem sort_any (l : List Edg) (v : Value) (w : World) (h : RdrE w v l) (hn : l.length ≤ 1000000) (hp : ∀ E ∈ l, E.ps.length ≤ 1000000) :
    Calls Try.prog 30 #[v] w fun e w' => ∃ u M L', e = .returned u ∧ w'.ownsRow w.heap.size 27 5 u l.length (ecs L') ∧ M.map outE = l.map outE ∧ Stab 0 l.length M L' ∧ Srt 0 l.length L' ∧ (∀ E ∈ L', OwnE w' w.heap.size E) ∧ G w w' := by
  obtain ⟨p, c, rfl⟩ := h.shape
  have HC := Lib.hid (cloneE_any l _ w h.row hn (fun E hE => (h.each E hE).isE))
  obtain ⟨n, hnn⟩ : ∃ n, n = l.length := ⟨_, rfl⟩
  rw [← hnn] at HC hn ⊢
  have HN := Lib.hid hnn
  have H := Lib.hid h
  have HPP := Lib.hid hp
  clear h hnn hp
  go_enter Try.func30, Try.ntmps30
  go_wp2_with fail
  refine HC.out.mono ?_
  rintro e w1 ⟨u, rfl, hown, hg1⟩
  have HG1 := Lib.hid hg1
  rcases id hown.2 with ⟨rfl, hn0⟩ | ⟨g, cap, cur, rfl, hgb, hgh, hnc, hcm, hsz, htk⟩
  · have hl0 : l = [] := List.eq_nil_of_length_eq_zero (by rw [← HN.out, hn0])
    have HF := Lib.hid (show w1.ownsRow w.heap.size 27 5 (.slice none 0 0) 0 (ecs []) from World.ownsRow_nil _ _ _ _)
    have HL := Lib.hid hl0
    subst hn0
    clear hown hl0 hg1 HC
    go_wp2_with fail
    go_loop [9] (fun i => i = .int .i64 0) (fun _ => 0)
    case atStart => rfl
    case round =>
      obtain rfl := hrel
      go_wp2_with fail
      refine (sortStable_nil w1).mono ?_
      rintro e w2 ⟨⟨u, rfl⟩, rfl⟩
      go_wp2_with fail
      go_ret
      exact ⟨_, [], [], rfl, HF.out, by rw [HL.out], Stab.refl _ _ _, (fun i j h1 h2 h3 => by omega), (fun E hE => by cases hE), HG1.out⟩
  · have HI0 := Lib.hid (show In w1 g n cap l from ⟨⟨hown.1, .inr ⟨g, cap, cur, rfl, Nat.zero_le _, hgh, hnc, hcm, hsz, htk⟩⟩, fun E hE => (H.out.each E hE).isE⟩)
    have HGB := Lib.hid (show w.heap.size ≤ g from hgb)
    clear hown hg1 hgb hgh hsz htk HC cur
    go_wp2_with fail
    go_loopw [9] (fun i wr => ∃ (k : Nat) (M : List Edg), k ≤ n ∧ i = .int .i64 k ∧ Hid (In wr g n cap M ∧ M.map outE = l.map outE ∧ (∀ q, q < k → OwnE wr w.heap.size (eat M q)) ∧ (∀ q, k ≤ q → q < n → eat M q = eat l q)) ∧ G w wr) (fun i _ => n - (intOf i).toNat)
    case atStart => exact ⟨0, l, by omega, rfl, Lib.hid ⟨HI0.out, rfl, fun q hq => by omega, fun q _ _ => rfl⟩, HG1.out⟩
    case round =>
      obtain ⟨k, M, hk, rfl, HM, hg⟩ := hrel
      by_cases hlt : k < n
      · have hltI : (k : Int) < (n : Int) := by omega
        have hMl := HM.out.1.len
        have hEl : eat M k = eat l k := HM.out.2.2.2 k (Nat.le_refl _) hlt
        have hat := H.out.each (eat l k) (List.mem_of_getElem? (eat_get (by rw [← HN.out]; exact hlt)))
        obtain ⟨-, -, -, -, c4⟩ := HM.out.1.at hlt
        rw [hEl] at c4
        have f4 := HM.out.1.froz (k * 5 + 4)
        have hq2 : (eat l k).ps.length ≤ 1000000 := HPP.out _ (List.mem_of_getElem? (eat_get (by rw [← HN.out]; exact hlt)))
        have HCL := Lib.hid (cloneP_any (eat l k).ps (eat l k).v wr (hat.rdr.g hg) hq2)
        obtain ⟨vp, vn, vc, hvv⟩ := hat.isE
        rw [hvv] at c4 HCL
        have HAT := Lib.hid hat
        have HEL := Lib.hid (And.intro hEl (And.intro hMl hq2))
        clear hEl hMl hat hq2 hvv
        go_wp2_with fail
        refine HCL.out.mono ?_
        rintro e w2 ⟨u, rfl, hu, hg2⟩
        obtain ⟨up, uc, rfl⟩ := ownsRow_shape hu
        have HU := Lib.hid hu
        have HG2 := Lib.hid hg2
        have HI2 := Lib.hid (HM.out.1.g hg2)
        have f4 := HI2.out.froz (k * 5 + 4)
        have c4 := hg2.cell c4
        clear hu hg2 HCL
        obtain ⟨qn, hqn⟩ : ∃ q, q = (eat l k).ps.length := ⟨_, rfl⟩
        rw [← hqn] at HU ⊢
        have HQN := Lib.hid hqn
        clear hqn
        go_upto_region 6 with fail
        obtain ⟨w3, hw3⟩ : ∃ X : World, X = w2.setCell ⟨g, k * 5 + 4, none⟩ (.slice up qn uc) := ⟨_, rfl⟩
        rw [← hw3]
        have fE : Fr (fun q => q = g) w2 w3 := by rw [hw3]; exact (Fr.refl (fun q => q = g) w2).setCell (p := ⟨g, k * 5 + 4, none⟩) (.inl rfl) _
        have hMk : M[k]? = some (eat l k) := by rw [eat_get (by rw [HEL.out.2.1]; exact hlt), HEL.out.1]
        have hset : ∀ j, eat (M.set k (lentE (eat l k) (.slice up qn uc))) j = if j = k then lentE (eat l k) (.slice up qn uc) else eat M j := fun j => eat_set (by rw [HEL.out.2.1]; exact hlt) j
        have hI3 : In w3 g n cap (M.set k (lentE (eat l k) (.slice up qn uc))) := by
          refine ⟨?_, fun E hE => ?_⟩
          · rw [ecs_setv M k (eat l k) _ hMk, hw3]; exact own_set _ HI2.out.own
          · rcases List.mem_or_eq_of_mem_set hE with h1 | h1
            · exact HI2.out.isE E h1
            · rw [h1]; exact ⟨_, _, _, rfl⟩
        have hown2 : OwnE w2 w.heap.size (lentE (eat l k) (.slice up qn uc)) :=
          ⟨by show w2.ownsRow w.heap.size 56 4 (.slice up qn uc) (eat l k).ps.length (pcells (eat l k).ps)
              rw [← HQN.out]; exact ownsRow_mono HU.out hg.size, HAT.out.n, HAT.out.ps, HAT.out.f, HAT.out.t, HAT.out.l⟩
        have hap : ∀ E, OwnE w2 w.heap.size E → OwnE w3 w.heap.size E := fun E hE => hE.fr fE (apart_ep hE HI2.out.own rfl)
        have HR := Lib.hid (show In w3 g n cap (M.set k (lentE (eat l k) (.slice up qn uc))) ∧ (M.set k (lentE (eat l k) (.slice up qn uc))).map outE = l.map outE ∧ (∀ q, q < k + 1 → OwnE w3 w.heap.size (eat (M.set k (lentE (eat l k) (.slice up qn uc))) q)) ∧ (∀ q, k + 1 ≤ q → q < n → eat (M.set k (lentE (eat l k) (.slice up qn uc))) q = eat l q) from ⟨hI3, by
            rw [List.map_set, out_lent, ← HM.out.2.1]
            apply List.ext_getElem?
            intro j
            rw [List.getElem?_set]
            split
            · rename_i hjk
              subst hjk
              rw [List.getElem?_map, hMk]
              simp [HEL.out.2.1, hlt]
            · rfl, fun q h1 => by
            rw [hset]
            split
            · exact hap _ hown2
            · exact hap _ ((HM.out.2.2.1 q (by omega)).g HG2.out), fun q h1 h2 => by
            rw [hset, if_neg (by omega)]; exact HM.out.2.2.2 q (by omega) h2⟩)
        have hg3 : G w w3 := g_of_fr (hg.trans HG2.out) fE (fun q e => by have := HGB.out; omega)
        clear hw3 fE hMk hset hI3 hown2 hap f4 c4
        go_wp2_with fail
        go_roundw
        case rel => exact ⟨k + 1, _, by omega, by go_num, HR, hg3⟩
        case measure => simp [intOf]; omega
      · have hltI : ¬ (k : Int) < (n : Int) := by omega
        have HS := Lib.hid (sortStable_any M g n cap wr HM.out.1 hn)
        go_wp2_with fail
        refine HS.out.mono ?_
        rintro e w4 ⟨⟨u, rfl⟩, L', hin, hst, hsr, hf4⟩
        have HF := Lib.hid (show w4.ownsRow w.heap.size 27 5 (.slice (some ⟨g, 0, none⟩) n cap) n (ecs L') ∧ M.map outE = l.map outE ∧ Stab 0 n M L' ∧ Srt 0 n L' ∧ (∀ E ∈ L', OwnE w4 w.heap.size E) ∧ G w w4 from by
          refine ⟨?_, HM.out.2.1, hst, hsr, fun E hE => ?_, g_of_fr hg hf4 (fun q e => by have := HGB.out; omega)⟩
          · obtain ⟨h1, h2⟩ := hin.own
            refine ⟨h1, ?_⟩
            rcases h2 with ⟨h2, -⟩ | ⟨g', cap', cur', he, h3, h4⟩
            · cases h2
            · cases he; exact .inr ⟨g, cap, cur', rfl, HGB.out, h4⟩
          · obtain ⟨j, hj, he⟩ := List.getElem_of_mem (hst.mem.1 hE)
            have h5 : eat M j = E := eat_of (by rw [List.getElem?_eq_getElem hj, he])
            have h6 := HM.out.2.2.1 j (by rw [HM.out.1.len] at hj; omega)
            rw [h5] at h6
            exact h6.fr hf4 (apart_ep h6 HM.out.1.own rfl))
        clear hin hst hsr hf4 HS
        go_wp2_with fail
        go_ret
        exact ⟨_, M, L', rfl, HF.out⟩
end Go.Proofs.Ytfdajignnnhnmaa
