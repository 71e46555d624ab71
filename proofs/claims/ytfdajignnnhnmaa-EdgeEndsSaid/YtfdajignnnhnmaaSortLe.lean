/- rows of edges that are lent -/
import Derived.Test.YtfdajignnnhnmaaSortOv
namespace Go.Proofs.Ytfdajignnnhnmaa
set_option linter.unusedVariables false
set_option linter.unusedSimpArgs false
open Go.RowKit Go.Shelf
attribute [local go_sem] Oper.semAt_some

def medge (k i : Int) : Edg := ⟨⟨#[]⟩, ⟨#[]⟩, ⟨#[]⟩, mk k i, .slice none 0 0, []⟩
def marksE (k : Int) (n : Nat) : List Edg := (List.range n).map fun i => medge k ((i : Nat) : Int)
theorem marksE_succ (k : Int) (n : Nat) : marksE k (n + 1) = marksE k n ++ [medge k (n : Int)] := by simp [marksE, List.range_succ]
theorem marksE_len (k : Int) (n : Nat) : (marksE k n).length = n := by simp [marksE]
theorem marksE_get (k : Int) (n i : Nat) (h : i < n) : (marksE k n)[i]? = some (medge k (i : Int)) := by simp [marksE, h]
/-- M is lent of L, edge by edge -/
structure LentL (W : World) (base : Nat) (L M : List Edg) : Prop where
  len : M.length = L.length
  each : ∀ i, i < L.length → ∃ u b, base ≤ b ∧ eat M i = lentE (eat L i) u ∧ LentP W b u (eat L i)
theorem LentL.fr {S : Nat → Prop} {W W' : World} {base : Nat} {L M : List Edg} (h : LentL W base L M) (hf : Fr S W W') (hs : ∀ g, S g → g < base ∨ W.heap.size ≤ g) : LentL W' base L M :=
  ⟨h.len, fun i hi => by
    obtain ⟨u, b, hb, h1, h2⟩ := h.each i hi
    exact ⟨u, b, hb, h1, h2.fr hf (fun g hg hS => by have := Lent.lt h2 g hg; have := hs g hS; omega)⟩⟩
theorem LentL.g {W W' : World} {base : Nat} {L M : List Edg} (h : LentL W base L M) (hg : G W W') : LentL W' base L M := h.fr (hg.fr (fun _ => False)) (fun _ h => h.elim)
/-- a row of edges that is lent: marks behind its end -/
def LentEs (W : World) (base : Nat) (v : Value) (L : List Edg) : Prop :=
  ∃ g c M, v = .slice (some ⟨g, 0, none⟩) L.length c ∧ W.ownsRow base 27 5 (.slice (some ⟨g, 0, none⟩) (L.length + 12) c) (L.length + 12) (ecs (M ++ marksE 1 12)) ∧ LentL W base L M
theorem lent_apart {W : World} {base base' q n : Nat} {u v : Value} {E : Edg} {xs : List Value} (h : LentP W base u E) (hr : W.ownsRow base' 27 5 v n xs) (hg : v.ownBlock = some q) : ¬ u.ownBlock = some q := by
  obtain ⟨g, c, rfl, ho⟩ := h
  intro hk
  obtain ⟨c1, h1⟩ := own_type ho (show (Value.slice (some ⟨g, 0, none⟩) (E.ps.length + 12) c).ownBlock = some q from hk)
  obtain ⟨c2, h2⟩ := own_type hr hg
  rw [h1] at h2
  simp at h2
theorem eat_appL {M : List Edg} {x : Edg} {i : Nat} (h : i < M.length) : eat (M ++ [x]) i = eat M i := by
  apply eat_of; rw [List.getElem?_append_left h]; exact eat_get h
theorem eat_appR {M : List Edg} {x : Edg} : eat (M ++ [x]) M.length = x := by
  apply eat_of; rw [List.getElem?_append_right (Nat.le_refl _), Nat.sub_self]; rfl
set_option maxHeartbeats 2000000 in
theorem lentEs_any (L : List Edg) (v : Value) (w : World) (h : RdrE w v L) (hn : L.length ≤ 1000000) (hp : ∀ E ∈ L, E.ps.length ≤ 1000000) :
    Calls Try.prog 29 #[v] w fun e w' => ∃ u, e = .returned u ∧ LentEs w' w.heap.size u L ∧ G w w' := by
  obtain ⟨i0, hi, hz0, hz1, hz2⟩ := info_parts infoE
  obtain ⟨p, c, rfl⟩ := h.shape
  obtain ⟨n, hnn⟩ : ∃ n, n = L.length := ⟨_, rfl⟩
  have HN := Lib.hid hnn
  have H := Lib.hid (show RdrE w (.slice p n c) L by rw [hnn]; exact h)
  have HPP := Lib.hid hp
  rw [← hnn] at hn ⊢
  clear h hnn hp
  go_enter Try.func29, Try.ntmps29
  go_wp2_with (at_make; refine wpList_make_own w rfl _ _ _ rfl w.heap.size 27 i0 (.agg #[.string ⟨#[]⟩, .string ⟨#[]⟩, .string ⟨#[]⟩, .int .i64 0, .slice none 0 0]) 5 Try.underlying35 hi hz0 hz1 .i64 .i64 _ (n + 12) rfl rfl (by omega) (by rw [hz2]; omega) (by unfold maxLen; omega) (Nat.le_refl _) ?_; intro w1 hown1 hgrow1)
  have hg1 : G w w1 := (G.refl w).grown hgrow1 (fun k h => by cases h)
  have HO1 := Lib.hid hown1
  clear hgrow1 hown1
  go_wp2_with fail
  go_loopw [3, 4] (fun uv iv wr => ∃ (k : Nat) (M : List Edg) (rp : Option Addr) (rc : Nat), k ≤ n ∧ iv = .int .i64 k ∧ uv = .slice rp k rc ∧ Hid (wr.ownsRow w.heap.size 27 5 (.slice rp k rc) k (ecs M) ∧ M.length = k ∧ (∀ i, i < k → ∃ u b, w.heap.size ≤ b ∧ eat M i = lentE (eat L i) u ∧ LentP wr b u (eat L i))) ∧ G w wr) (fun _ iv _ => n - (intOf iv).toNat)
  case atStart => exact ⟨0, [], _, _, by omega, rfl, rfl, Lib.hid ⟨HO1.out, rfl, fun i h => by omega⟩, hg1⟩
  case round =>
    clear hg1 HO1
    obtain ⟨k, M, rp, rc, hk, rfl, rfl, HM, hg⟩ := hrel
    by_cases hlt : k < n
    · have hltI : (k : Int) < (n : Int) := by omega
      have hLk : L[k]? = some (eat L k) := eat_get (by rw [← HN.out]; exact hlt)
      have hrd := H.out.g hg
      obtain ⟨b, o, hpe, a0, a1, a2, a3, a4⟩ := hrd.at hLk
      subst hpe
      have hea := hrd.each _ (List.mem_of_getElem? hLk)
      have hps := HPP.out _ (List.mem_of_getElem? hLk)
      have HC := Lib.hid (lentE_any (eat L k) wr hea hps)
      obtain ⟨pa, na, ca, hva⟩ := hea.isE
      unfold ev at HC
      rw [hva] at HC a4
      have HVA := Lib.hid hva
      clear hrd hLk hea hps hva
      go_wp2_with fail
      refine HC.out.mono ?_
      rintro e w2 ⟨u, rfl, hl, hg2⟩
      obtain ⟨up, uc, hu⟩ := LentP.slice hl
      obtain ⟨nu, hnu⟩ : ∃ x, x = (eat L k).ps.length := ⟨_, rfl⟩
      rw [← hnu] at hu
      subst hu
      have HLP := Lib.hid hl
      have hxe : lentE (eat L k) (.slice up nu uc) = ⟨(eat L k).f, (eat L k).t, (eat L k).l, (eat L k).tm, .slice up nu uc, (eat L k).ps⟩ := rfl
      obtain ⟨xf, hxf⟩ : ∃ x, x = (eat L k).f := ⟨_, rfl⟩
      obtain ⟨xt, hxt⟩ : ∃ x, x = (eat L k).t := ⟨_, rfl⟩
      obtain ⟨xl, hxl⟩ : ∃ x, x = (eat L k).l := ⟨_, rfl⟩
      obtain ⟨xm, hxm⟩ : ∃ x, x = (eat L k).tm := ⟨_, rfl⟩
      have HXE := Lib.hid (show ecs [lentE (eat L k) (.slice up nu uc)] = [.string xf, .string xt, .string xl, .int .i64 xm, .slice up nu uc] by rw [hxf, hxt, hxl, hxm]; rfl)
      unfold lentE
      simp only
      rw [← hxf, ← hxt, ← hxl, ← hxm]
      have HG2 := Lib.hid hg2
      have HO2 := Lib.hid (hg2.ownsRow HM.out.1)
      clear hl hg2 hnu hxe hxf hxt hxl hxm a0 a1 a2 a3 a4 HC
      obtain ⟨X3, hX3⟩ : ∃ X : World, X = w2.alloc (.cells #[.string xf, .string xt, .string xl, .int .i64 xm, .slice up nu uc] 27) := ⟨_, rfl⟩
      have g3 : G w2 X3 := by rw [hX3]; exact (G.refl w2).alloc _
      have hb3 : X3.heap[w2.heap.size]? = some (.cells #[.string xf, .string xt, .string xl, .int .i64 xm, .slice up nu uc] 27 (0, 0)) := by rw [hX3]; exact alloc_new _ _
      have HX3 := Lib.hid hX3
      have HG3 := Lib.hid g3
      have hs3 := (hg.trans (HG2.out.trans g3)).size
      obtain ⟨q0, q1, q2, q3, q4⟩ := cells5 hb3
      clear hX3 g3 hb3
      go_upto_region 6 with fail
      rw [← HX3.out]
      go_wp2_with (at_builtin; go_loud (refine wpList_append2 _ rfl _ _ 35 rfl w.heap.size 27 i0 (.agg #[.string ⟨#[]⟩, .string ⟨#[]⟩, .string ⟨#[]⟩, .int .i64 0, .slice none 0 0]) 5 80 Try.underlying35 hi hz0 hz1 hz2 rfl (by decide) (.slice rp k rc) k (ecs M) rfl (((G.refl X3).alloc _).ownsRow (HG3.out.ownsRow HO2.out)) ⟨X3.heap.size, 0, none⟩ 1 1 [.string xf, .string xt, .string xl, .int .i64 xm, .slice up nu uc] rfl rfl (World.news_of_block (cs := #[.string xf, .string xt, .string xl, .int .i64 xm, .slice up nu uc]) (t := 27) (fr := (0, 0)) (alloc_new X3 _)) (by simp [Value.oneCell']) (by unfold maxLen; omega) (by omega) (by simp; omega) ?_); intro v' w4 hown4 hgrow4 hnil4 hat4; obtain ⟨p4, c4, rfl⟩ := ownsRow_shape hown4)
      have hf4 : Fr (fun q => (Value.slice rp k rc).ownBlock = some q) X3 w4 := (((G.refl X3).alloc _).fr _).trans (grownBy_fr hgrow4) (fun _ _ h => h)
      have HR := Lib.hid (show w4.ownsRow w.heap.size 27 5 (.slice p4 (k + 1) c4) (k + 1) (ecs (M ++ [lentE (eat L k) (.slice up nu uc)])) ∧ (M ++ [lentE (eat L k) (.slice up nu uc)]).length = k + 1 ∧ (∀ i, i < k + 1 → ∃ u b, w.heap.size ≤ b ∧ eat (M ++ [lentE (eat L k) (.slice up nu uc)]) i = lentE (eat L i) u ∧ LentP w4 b u (eat L i)) from ⟨by rw [ecs_app, HXE.out]; exact hown4, by simp [HM.out.2.1], fun i hi2 => by
        have hro := HG3.out.ownsRow HO2.out
        by_cases hik : i < k
        · obtain ⟨u9, b9, hb9, h1, h2⟩ := HM.out.2.2 i hik
          have h3 := h2.g (HG2.out.trans HG3.out)
          exact ⟨u9, b9, hb9, by rw [eat_appL (by rw [HM.out.2.1]; exact hik), h1], h3.fr hf4 (fun q hq hS => lent_apart h3 hro hS hq)⟩
        · obtain rfl : i = k := by omega
          have h3 := HLP.out.g HG3.out
          refine ⟨_, _, ?_, by have := eat_appR (M := M) (x := lentE (eat L i) (.slice up nu uc)); rwa [HM.out.2.1] at this, h3.fr hf4 (fun q hq hS => lent_apart h3 hro hS hq)⟩
          have := hg.size; omega⟩)
      have hgF : G w w4 := g_of_fr (hg.trans (HG2.out.trans HG3.out)) hf4 (fun q e => (HO2.out.lt q e).1)
      clear hown4 hgrow4 hnil4 hat4 hf4 q0 q1 q2 q3 q4
      go_roundw
      case rel => exact ⟨k + 1, _, p4, c4, by omega, by go_num, rfl, HR, hgF⟩
      case measure => simp [intOf]; omega
    · have hltI : ¬ (k : Int) < (n : Int) := by omega
      obtain rfl : k = n := by omega
      obtain ⟨WA, rfl⟩ : ∃ WA : World, WA = wr := ⟨_, rfl⟩
      go_wp2_with fail
      go_loopw [3, 6] (fun uv iv wr => ∃ (j : Nat) (p' : Option Addr) (c' : Nat), j ≤ 12 ∧ iv = .int .i64 j ∧ uv = .slice p' (k + j) c' ∧ Hid (wr.ownsRow w.heap.size 27 5 (.slice p' (k + j) c') (k + j) (ecs (M ++ marksE 1 j)) ∧ LentL wr w.heap.size L M) ∧ G w wr) (fun _ iv _ => 12 - (intOf iv).toNat)
      case atStart => exact ⟨0, rp, rc, by omega, rfl, rfl, Lib.hid ⟨by simpa [marksE] using HM.out.1, ⟨by rw [HM.out.2.1, HN.out], fun i hi2 => HM.out.2.2 i (by rw [HN.out]; exact hi2)⟩⟩, hg⟩
      case round =>
        clear hg
        obtain ⟨j, p', c', hj, rfl, rfl, HI, hg⟩ := hrel
        by_cases hlt2 : j < 12
        · have hgs := hg.size
          go_wp2_with fail
          refine (markEdge_any 1 j wr (by omega) (by omega) (by omega) (by omega)).mono ?_
          rintro e w3 ⟨rfl, hg3⟩
          have hgs3 := hg3.size
          have HO3 := Lib.hid (hg3.ownsRow HI.out.1)
          have HL3 := Lib.hid (HI.out.2.g hg3)
          go_wp2_with (at_builtin; go_loud (refine wpList_append2 _ rfl _ _ 35 rfl w.heap.size 27 i0 (.agg #[.string ⟨#[]⟩, .string ⟨#[]⟩, .string ⟨#[]⟩, .int .i64 0, .slice none 0 0]) 5 80 Try.underlying35 hi hz0 hz1 hz2 rfl (by decide) (.slice p' (k + j) c') (k + j) (ecs (M ++ marksE 1 j)) rfl (((G.refl w3).alloc _).ownsRow HO3.out) ⟨w3.heap.size, 0, none⟩ 1 1 [.string ⟨#[]⟩, .string ⟨#[]⟩, .string ⟨#[]⟩, .int .i64 (mk 1 j), .slice none 0 0] rfl rfl (World.news_of_block (cs := #[.string ⟨#[]⟩, .string ⟨#[]⟩, .string ⟨#[]⟩, .int .i64 (mk 1 j), .slice none 0 0]) (t := 27) (fr := (0, 0)) (alloc_new w3 _)) (by simp [Value.oneCell']) (by unfold maxLen; omega) (by omega) (by simp; omega) ?_); intro v' w4 hown4 hgrow4 hnil4 hat4; obtain ⟨g', cap', rfl⟩ := ownsRow_succ hown4)
          have hf4 : Fr (fun q => (Value.slice p' (k + j) c').ownBlock = some q) w3 w4 := (((G.refl w3).alloc _).fr _).trans (grownBy_fr hgrow4) (fun _ _ h => h)
          have HR := Lib.hid (show w4.ownsRow w.heap.size 27 5 (.slice (some ⟨g', 0, none⟩) (k + (j + 1)) cap') (k + (j + 1)) (ecs (M ++ marksE 1 (j + 1))) ∧ LentL w4 w.heap.size L M from ⟨by
            rw [marksE_succ, ← List.append_assoc, ecs_app (M ++ marksE 1 j)]
            exact hown4, HL3.out.len, fun i hi2 => by
            obtain ⟨u9, b9, hb9, h1, h2⟩ := HL3.out.each i hi2
            exact ⟨u9, b9, hb9, h1, h2.fr hf4 (fun q hq hS => lent_apart h2 HO3.out hS hq)⟩⟩)
          have hgF : G w w4 := g_of_fr (hg.trans hg3) hf4 (fun q e => (HO3.out.lt q e).1)
          clear hown4 hgrow4 hnil4 hat4 hf4
          go_roundw
          case rel => exact ⟨j + 1, _, _, by omega, by go_num, rfl, HR, hgF⟩
          case measure => simp [intOf]; omega
        · obtain rfl : j = 12 := by omega
          obtain ⟨g, cap, hp⟩ := ownsRow_addr HI.out.1 (by omega)
          have hcap := ownsRow_cap HI.out.1
          simp only [Value.slice.injEq, true_and] at hp
          obtain ⟨rfl, rfl⟩ := hp
          have h0 : (0 : Int) ≤ (k : Int) := by omega
          have h1 : (k : Int) ≤ (c' : Int) := by omega
          go_wp2_with fail
          go_ret
          exact ⟨.slice (some ⟨g, 0, none⟩) k c', rfl, ⟨g, c', M, by rw [← HN.out], by rw [← HN.out]; exact HI.out.1, HI.out.2⟩, hg⟩
end Go.Proofs.Ytfdajignnnhnmaa
