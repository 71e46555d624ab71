/- the document's buffer -/
import Derived.Test.YtahdodijpmkddaaSortRo
import Derived.Test.YtahdodijpmkddaaBufQ
import Derived.Test.YtahdodijpmkddaaEndA
set_option maxRecDepth 10000
namespace Go.Proofs.Ytahdodijpmkddaa
set_option linter.unusedVariables false
set_option linter.unusedSimpArgs false
open Go.RowKit Go.Shelf
attribute [local go_sem] Oper.semAt_some

/-- the document's buffer of the edges s: T: its blocks -/
structure RBuf (T : Nat → Prop) (W : World) (R : Nat) (s : List Out) (v : Value) (L : List Edg) : Prop where
  box : W.heap[R]? = some (.cells #[v] 30 (0, 0))
  row : Rdr W 5 v L.length (ecs L)
  each : ∀ E ∈ L, EdgAt W E ∧ ∀ g, E.v.ownBlock = some g → T g
  same : ∀ k, (L.map outE).filter (isO k) = s.filter (isO k)
  str : OStr s
  len : L.length = s.length
  tR : T R
  tV : ∀ g, v.ownBlock = some g → T g
  nR : ∀ g, v.ownBlock = some g → g ≠ R
  nE : ∀ E ∈ L, ∀ g, E.v.ownBlock = some g → g ≠ R
  lt : ∀ k, T k → k < W.heap.size
theorem RBuf.fr {T U : Nat → Prop} {W W' : World} {R : Nat} {s : List Out} {v : Value} {L : List Edg} (h : RBuf T W R s v L) (hf : Fr U W W') (hd : ∀ k, T k → ¬ U k) : RBuf T W' R s v L :=
  ⟨(hf.block R (h.lt R h.tR) (hd R h.tR)).trans h.box, h.row.fr hf (fun g hg => hd g (h.tV g hg)), fun E hE => ⟨(h.each E hE).1.fr hf (fun g hg => hd g ((h.each E hE).2 g hg)), (h.each E hE).2⟩, h.same, h.str, h.len, h.tR, h.tV, h.nR, h.nE, fun k hk => Nat.lt_of_lt_of_le (h.lt k hk) hf.size⟩
theorem RBuf.g {T : Nat → Prop} {W W' : World} {R : Nat} {s : List Out} {v : Value} {L : List Edg} (h : RBuf T W R s v L) (hg : G W W') : RBuf T W' R s v L := h.fr (hg.fr (fun _ => False)) (fun _ _ x => x)
theorem RBuf.rdr {T : Nat → Prop} {W : World} {R : Nat} {s : List Out} {v : Value} {L : List Edg} (h : RBuf T W R s v L) : RdrE W v L := ⟨h.row, fun E hE => (h.each E hE).1⟩
theorem any_filt (p : Out → Bool) (l : List Out) : l.any p = !(l.filter p).isEmpty := by
  induction l with
  | nil => rfl
  | cons a l ih =>
    rw [List.any_cons, List.filter_cons, ih]
    by_cases h : p a = true
    · simp [h]
    · simp [h]
theorem RBuf.has {T : Nat → Prop} {W : World} {R : Nat} {s : List Out} {v : Value} {L : List Edg} (h : RBuf T W R s v L) (k : EKey) : hasO k (L.map outE) = hasO k s := by
  unfold hasO
  rw [any_filt, any_filt, h.same]
theorem like_has (L : List Edg) (E : Edg) (k : Nat) (hk : k < L.length) : hasO (okey (outE E)) ((L.drop k).map outE) = (likeB (eat L k) E || hasO (okey (outE E)) ((L.drop (k + 1)).map outE)) := by
  rw [List.drop_eq_getElem_cons hk]
  have e1 := eat_get (L := L) (k := k) hk
  rw [List.getElem?_eq_getElem hk] at e1
  rw [Option.some.inj e1]
  unfold hasO
  rw [List.map_cons, List.any_cons]
  congr 1
  unfold likeB isO
  rw [ecmp_out]
/-- the document's copies of edges -/
theorem copies_any (l : List Edg) (v : Value) (w : World) (h : RdrE w v l) (hn : l.length ≤ 100000) (hp : ∀ E ∈ l, E.ps.length ≤ 1000000) :
    Calls Try.prog 48 #[v] w fun e w' => ∃ u M, e = .returned u ∧ w'.ownsRow w.heap.size 33 5 u M.length (ecs M) ∧ M.map outE = l.map outE ∧ (∀ E ∈ M, OwnE w' w.heap.size E) ∧ G w w' := by
  obtain ⟨i0, hi, hz0, hz1, hz2⟩ := info_parts infoE
  obtain ⟨p, c, rfl⟩ := h.shape
  obtain ⟨n, hnn⟩ : ∃ n, n = l.length := ⟨_, rfl⟩
  rw [← hnn] at hn ⊢
  have HN := Lib.hid hnn
  have H := Lib.hid h
  have HP := Lib.hid hp
  clear h hnn hp
  go_enter Try.func48, Try.ntmps48
  go_wp2_with fail
  go_loopw [3, 4] (fun ov kv wr => ∃ (k : Nat) (op : Option Addr) (oc : Nat), kv = .int .i64 k ∧ k ≤ n ∧ ov = .slice op k oc ∧ Hid (∃ M : List Edg, wr.ownsRow w.heap.size 33 5 (.slice op k oc) k (ecs M) ∧ M.map outE = (l.take k).map outE ∧ (∀ E ∈ M, OwnE wr w.heap.size E)) ∧ G w wr) (fun _ kv _ => n - (intOf kv).toNat)
  case atStart => exact ⟨0, none, 0, rfl, by omega, rfl, Lib.hid ⟨[], World.ownsRow_nil _ _ _ _, rfl, fun E hE => (by cases hE)⟩, G.refl w⟩
  case round =>
    obtain ⟨k, op, oc, rfl, hk, rfl, HX, hg⟩ := hrel
    by_cases hlt : k < n
    · have hkI : (k : Int) < (n : Int) := by omega
      obtain ⟨E, hE⟩ : ∃ E, l[k]? = some E := ⟨l[k]'(by have := HN.out; omega), List.getElem?_eq_getElem _⟩
      have hsl : RdrE wr (.slice p n c) l := by rw [HN.out]; exact H.out.g hg
      obtain ⟨b, o, rfl, c0, c1, c2, c3, c4⟩ := hsl.at hE
      have hEA := hsl.each E (List.mem_of_getElem? hE)
      have hnp := HP.out E (List.mem_of_getElem? hE)
      obtain ⟨pe, ne, ce, hev⟩ := hEA.isE
      rw [hev] at c4
      have HCP := Lib.hid (copyE_any E wr hEA hnp)
      have hEv : ev E = .agg #[.string E.f, .string E.t, .string E.l, .int .i64 E.tm, .slice pe ne ce] := by unfold ev; rw [hev]
      rw [hEv] at HCP
      have HTK := Lib.hid (show (l.take (k + 1)).map outE = (l.take k).map outE ++ [outE E] by rw [List.take_add_one, hE, List.map_append]; rfl)
      clear hsl hEA hnp hev hEv hE
      go_wp2_with fail
      refine HCP.out.mono ?_
      rintro e W2 ⟨u, rfl, hown, hg2⟩
      obtain ⟨up, uc, hu⟩ := ownsRow_shape hown.own
      have hev2 : ev (lentE E u) = .agg #[.string E.f, .string E.t, .string E.l, .int .i64 E.tm, .slice up (lentE E u).ps.length uc] := by
        have h1 : (lentE E u).v = .slice up (lentE E u).ps.length uc := hu
        unfold ev; rw [h1]; rfl
      have hec : ecs [lentE E u] = [.string E.f, .string E.t, .string E.l, .int .i64 E.tm, .slice up (lentE E u).ps.length uc] := by
        have h1 : (lentE E u).v = .slice up (lentE E u).ps.length uc := hu
        simp only [ecs]; rw [h1]; rfl
      rw [hev2]
      have HEC := Lib.hid hec
      have HOW := Lib.hid hown
      obtain ⟨M, hM1, hM2, hM3⟩ := HX.out
      have hrow2 := hg2.ownsRow hM1
      have HM := Lib.hid (And.intro hM2 hM3)
      have hgs := hg.size
      have hgs2 := hg2.size
      have hgw2 := hg.trans hg2
      generalize (lentE E u).ps.length = un at HEC ⊢
      have gA : G W2 (W2.alloc (.cells #[.string E.f, .string E.t, .string E.l, .int .i64 E.tm, .slice up un uc] 33)) := (G.refl W2).alloc _
      have k0 := cell_alloc_at W2 [.string E.f, .string E.t, .string E.l, .int .i64 E.tm, .slice up un uc] 33 (0, 0) 0 _ rfl
      have k1 := cell_alloc_at W2 [.string E.f, .string E.t, .string E.l, .int .i64 E.tm, .slice up un uc] 33 (0, 0) 1 _ rfl
      have k2 := cell_alloc_at W2 [.string E.f, .string E.t, .string E.l, .int .i64 E.tm, .slice up un uc] 33 (0, 0) 2 _ rfl
      have k3 := cell_alloc_at W2 [.string E.f, .string E.t, .string E.l, .int .i64 E.tm, .slice up un uc] 33 (0, 0) 3 _ rfl
      have k4 := cell_alloc_at W2 [.string E.f, .string E.t, .string E.l, .int .i64 E.tm, .slice up un uc] 33 (0, 0) 4 _ rfl
      simp only [Nat.zero_add] at k0 k1 k2 k3 k4
      clear hu hev2 hec hown hM1 hM2 hM3 HX HCP c0 c1 c2 c3 c4
      go_upto_region 6 with fail
      generalize hX3 : (W2.alloc (.cells #[.string E.f, .string E.t, .string E.l, .int .i64 E.tm, .slice up un uc] 33)) = X3 at gA k0 k1 k2 k3 k4 ⊢
      have hrow3 := gA.ownsRow hrow2
      have hz3 := gA.size
      have HGA := Lib.hid (hgw2.trans gA)
      have HGB := Lib.hid gA
      clear hX3 hrow2 hgw2 gA
      go_wp2_with (at_builtin; refine wpList_append2 _ rfl _ _ 28 rfl w.heap.size 33 i0 (.agg #[.string ⟨#[]⟩, .string ⟨#[]⟩, .string ⟨#[]⟩, .int .i64 0, .slice none 0 0]) 5 80 Try.underlying28 hi hz0 hz1 hz2 rfl (by decide) (.slice op k oc) k (ecs M) rfl (((G.refl X3).alloc _).ownsRow hrow3) ⟨X3.heap.size, 0, none⟩ 1 1 [.string E.f, .string E.t, .string E.l, .int .i64 E.tm, .slice up un uc] rfl rfl (World.news_of_block (cs := #[.string E.f, .string E.t, .string E.l, .int .i64 E.tm, .slice up un uc]) (t := 33) (fr := (0, 0)) (alloc_new X3 _)) (by simp [Value.oneCell']) (by unfold maxLen; omega) (by omega) (by simp; omega) ?_; intro v' X4 hown hgrow hnil hat; obtain ⟨op', oc', rfl⟩ := ownsRow_shape hown)
      have hf4 : Fr (fun q => (Value.slice op k oc).ownBlock = some q) X3 X4 := (((G.refl X3).alloc _).fr _).trans (grownBy_fr hgrow) (fun _ _ x => x)
      have hg4 : G w X4 := ((HGA.out.fr (fun q => w.heap.size ≤ q)).trans hf4 (fun q _ e => (hrow3.lt q e).1)).g (fun _ h => h)
      have HF := Lib.hid (show ∃ M' : List Edg, X4.ownsRow w.heap.size 33 5 (.slice op' (k + 1) oc') (k + 1) (ecs M') ∧ M'.map outE = (l.take (k + 1)).map outE ∧ (∀ E ∈ M', OwnE X4 w.heap.size E) from by
        refine ⟨M ++ [lentE E u], ?_, ?_, fun F hF => ?_⟩
        · rw [ecs_app, HEC.out]; exact hown
        · rw [List.map_append, HM.out.1, HTK.out]; rfl
        · rcases List.mem_append.1 hF with e | e
          · have h1 := ((HM.out.2 F e).g hg2).g HGB.out
            exact h1.fr hf4 (fun g hg5 hc => apart_ep h1 hrow3 hc g hg5 rfl)
          · rw [List.mem_singleton.1 e]
            have h1 := HOW.out.g HGB.out
            have h2 := h1.fr hf4 (fun g hg5 hc => apart_ep h1 hrow3 hc g hg5 rfl)
            exact ⟨ownsRow_mono h2.own hgs, h2.n, h2.ps, h2.f, h2.t, h2.l⟩)
      clear hown hgrow hnil hat hrow3 hf4 k0 k1 k2 k3 k4 hg2
      go_wp2_with fail
      go_roundw
      case rel => exact ⟨k + 1, op', oc', by go_num, by omega, rfl, HF, hg4⟩
      case measure => simp [intOf]; omega
    · obtain rfl : k = n := by omega
      have hkI : ¬ (k : Int) < (k : Int) := by omega
      obtain ⟨M, hM1, hM2, hM3⟩ := HX.out
      have hml : M.length = k := by have := hM1.1; rw [ecs_len] at this; omega
      have HF := Lib.hid (show wr.ownsRow w.heap.size 33 5 (.slice op k oc) M.length (ecs M) ∧ M.map outE = l.map outE ∧ (∀ E ∈ M, OwnE wr w.heap.size E) from ⟨by rw [hml]; exact hM1, by rw [hM2, List.take_of_length_le (by have := HN.out; omega)], hM3⟩)
      clear hM1 hM2 hM3 HX
      go_wp2_with fail
      go_ret
      first | exact ⟨_, M, rfl, HF.out.1, HF.out.2.1, HF.out.2.2, hg⟩ | exact ⟨_, rfl, M, HF.out.1, HF.out.2.1, HF.out.2.2, hg⟩
end Go.Proofs.Ytahdodijpmkddaa
