/- the buffer: take -/
import Derived.Test.YthhmmjpgefinmaaBufU
set_option maxRecDepth 10000
namespace Go.Proofs.Ythhmmjpgefinmaa
set_option linter.unusedVariables false
set_option linter.unusedSimpArgs false
open Go.RowKit Go.Shelf
attribute [local go_sem] Oper.semAt_some

theorem rowAt_tail {W : World} {g off n c : Nat} {E : Edg} {L : List Edg} (h : RowAt W g off (n + 1) c (E :: L)) (hE : E.v.cells.size = 1) : RowAt W g (off + 5) n (c - 1) L := by
  obtain ⟨⟨A, Z, hb, hA, hZ⟩, hl, hc, hi⟩ := h
  refine ⟨⟨A ++ ecs [E], Z, ?_, by rw [List.length_append, hA]; rfl, by rw [hZ]; omega⟩, by simpa using hl, ⟨by omega, by omega⟩, fun x hx => hi x (List.mem_cons_of_mem _ hx)⟩
  rw [hb, show E :: L = [E] ++ L from rfl, ecs_app]
  simp only [List.append_assoc]
theorem set5f {W : World} {R : Nat} {ty : TypeId} {a0 a1 a2 a3 a4 : Value} (h : W.heap[R]? = some (.cells #[a0, a1, a2, a3, a4] ty (0, 0))) (v0 v1 v2 v3 v4 : Value) :
    Fr (fun q => q = R) W (((((W.setCell ⟨R, 0, none⟩ v0).setCell ⟨R, 1, none⟩ v1).setCell ⟨R, 2, none⟩ v2).setCell ⟨R, 3, none⟩ v3).setCell ⟨R, 4, none⟩ v4) ∧
    (((((W.setCell ⟨R, 0, none⟩ v0).setCell ⟨R, 1, none⟩ v1).setCell ⟨R, 2, none⟩ v2).setCell ⟨R, 3, none⟩ v3).setCell ⟨R, 4, none⟩ v4).heap[R]? = some (.cells #[v0, v1, v2, v3, v4] ty (0, 0)) :=
  ⟨(((((Fr.refl (fun q => q = R) W).setCell (p := ⟨R, 0, none⟩) (.inl rfl) _).setCell (p := ⟨R, 1, none⟩) (.inl rfl) _).setCell (p := ⟨R, 2, none⟩) (.inl rfl) _).setCell (p := ⟨R, 3, none⟩) (.inl rfl) _).setCell (p := ⟨R, 4, none⟩) (.inl rfl) _,
    by
      have h0 := heap_setCell_at W R 0 v0 _ _ _ h
      have h1 := heap_setCell_at _ R 1 v1 _ _ _ h0
      have h2 := heap_setCell_at _ R 2 v2 _ _ _ h1
      have h3 := heap_setCell_at _ R 3 v3 _ _ _ h2
      have h4 := heap_setCell_at _ R 4 v4 _ _ _ h3
      simpa using h4⟩
theorem BufIn.same {S S' P : Nat → Prop} {W : World} {B : Nat} {s : List Out} {p : Bp} (h : BufIn S' P W B s p) (hs : ∀ k, S' k ↔ S k) : BufIn S P W B s p := by
  have : S' = S := funext (fun k => propext (hs k))
  rw [← this]; exact h
theorem take_more {S P : Nat → Prop} {w W3 : World} {B : Nat} {o : Out} {s : List Out} {p : Bp} (h : BufIn S P w B (o :: s) p) {t : Int} {E1 : Edg} {R1 : List Edg} {g off c : Nat} (hR : p.R t = E1 :: R1) (ht : t = otm o) (ho2 : R1.map outE = gr t s)
    (hrow : p.m t = .slice (some ⟨g, off, none⟩) (R1.length + 1) c) (hra : RowAt w g off (R1.length + 1) c (E1 :: R1)) (hne : R1 ≠ []) (hf : Fr (fun q => q = p.M) w W3) (hm : MapS W3 p.M (mset p.m t (.slice (some ⟨g, off + 5, none⟩) R1.length (c - 1))) (kset p.ks t)) :
    ∃ p', BufIn S P W3 B s p' := by
  have h2 := List.pairwise_cons.1 h.str
  have hmem : ∃ o' ∈ s, otm o' = t := by
    by_cases hc : ∃ o' ∈ s, otm o' = t
    · exact hc
    · rw [← gr_nil, ← ho2] at hc
      simp at hc
      exact absurd hc hne
  have hgne := h.ne.2 t g (by rw [hrow]; rfl)
  have hks : kset p.ks t = p.ks := if_pos ((h.keys t).2 ⟨o, List.mem_cons_self .., ht.symm⟩)
  obtain ⟨S', hb, hs1, hs2, hs3⟩ := h.upd (T := fun q => q = p.M) hf t (fun q _ hc => .inr (.inl hc)) p.SH p.v p.hs p.L (kset p.ks t) (.slice (some ⟨g, off + 5, none⟩) R1.length (c - 1)) R1 (s' := s) (P' := P)
    (h.hat.fr hf (fun q hq e => h.hM (by rw [← e]; exact hq))) (fun q hq => .inl hq) (by rw [hks]; exact h.hk) hm
    (.inr ⟨g, off + 5, c - 1, rfl, rowAt_tail (hra.fr hf (fun e => hgne.2 e)) (by
      obtain ⟨a, b, d, e⟩ := hra.isE E1 (List.mem_cons_self ..)
      rw [e]; rfl)⟩) ho2 (fun q hq => by rw [gr_cons, if_neg (fun e => hq (by rw [← e, ht]))]) h2.2
    (fun q => by
      rw [hks, h.keys]
      constructor
      · rintro ⟨o', ho', he⟩
        rcases List.mem_cons.1 ho' with e | e
        · obtain ⟨o2, ho2, he2⟩ := hmem
          exact ⟨o2, ho2, by rw [he2, ht, ← e]; exact he⟩
        · exact ⟨o', e, he⟩
      · rintro ⟨o', ho', he⟩; exact ⟨o', List.mem_cons_of_mem _ ho', he⟩)
    (fun o' ho' => h.rng o' (List.mem_cons_of_mem _ ho')) (fun F hF => by
      have h3 := h.props t F (by rw [hR]; exact List.mem_cons_of_mem _ hF)
      exact ⟨h3.1.fr hf (fun q hq e => h.sp q (by rw [show q = p.M from e]; exact h.sM) (h3.2 q hq)), h3.2⟩) (fun _ hq => hq) (fun _ hq => .inl hq) (fun q hq => Nat.lt_of_lt_of_le (h.lt q (.inr hq)) hf.size)
    (fun q hq => by
      have hq' : g = q := by cases hq; rfl
      subst hq'
      have hown : (p.m t).ownBlock = some g := by rw [hrow]; rfl
      exact ⟨.inl hown, h.hR t g hown, h.sp g (h.sR t g hown)⟩) (fun q hq => h.sp q (h.sH q hq))
  have hSS : ∀ k, S' k ↔ S k := fun k => ⟨fun hk => by
    rcases hs3 k hk with e | e | e
    · exact e
    · exact h.sH k e
    · have hq' : g = k := by cases e; rfl
      rw [← hq']
      exact h.sR t g (by rw [hrow]; rfl), hs2 k⟩
  exact ⟨_, hb.same hSS⟩
theorem take_last {S P : Nat → Prop} {w W3 : World} {B : Nat} {o : Out} {s : List Out} {p : Bp} (h : BufIn S P w B (o :: s) p) {t : Int} {E1 : Edg} {R1 : List Edg} {v' v0 : Value} (hR : p.R t = E1 :: R1) (ht : t = otm o) (hR1 : R1 = [])
    (hf : Fr (fun q => p.SH q ∨ q = p.M) w W3) (hat : HeapAt p.SH W3 p.H v' (popL p.hs)) (hm : MapS W3 p.M (mset (mset p.m t v0) t NOR) ((kset p.ks t).erase t)) : ∃ p', BufIn S P W3 B s p' := by
  have h2 := List.pairwise_cons.1 h.str
  have hks : kset p.ks t = p.ks := if_pos ((h.keys t).2 ⟨o, List.mem_cons_self .., ht.symm⟩)
  have hmm : mset (mset p.m t v0) t NOR = mset p.m t NOR := by
    funext x
    unfold mset
    split
    · rfl
    · rfl
  have hno : gr t s = [] := by
    have h3 := h.out t
    rw [hR, hR1, gr_cons, if_pos ht.symm] at h3
    simp at h3
    exact h3.2
  have hfst := (h.hk.first h.keys h.str).2 o s rfl
  have hpop := h.hk.pop h.map.nd hfst.2.2.1
  rw [hfst.2.2.2] at hpop
  rw [hks, hmm] at hm
  obtain ⟨S', hb, hs1, hs2, hs3⟩ := h.upd (T := fun q => p.SH q ∨ q = p.M) hf t (fun q _ hc => hc.imp id .inl) p.SH v' (popL p.hs) p.L.tail (p.ks.erase t) NOR [] (s' := s) (P' := P)
    hat (fun q hq => .inl hq) (by rw [ht]; exact hpop) hm (.inl ⟨rfl, rfl⟩) hno.symm (fun q hq => by rw [gr_cons, if_neg (fun e => hq (by rw [← e, ht]))]) h2.2
    (fun q => by
      rw [h.map.nd.mem_erase_iff, h.keys]
      constructor
      · rintro ⟨hne, o', ho', he⟩
        rcases List.mem_cons.1 ho' with e | e
        · exact absurd (by rw [← he, e, ht]) hne
        · exact ⟨o', e, he⟩
      · rintro ⟨o', ho', he⟩
        exact ⟨fun e => gr_nil.1 hno ⟨o', ho', by rw [he, e]⟩, o', List.mem_cons_of_mem _ ho', he⟩)
    (fun o' ho' => h.rng o' (List.mem_cons_of_mem _ ho')) (fun F hF => by cases hF) (fun _ hq => hq) (fun _ hq => .inl hq) (fun q hq => Nat.lt_of_lt_of_le (h.lt q (.inr hq)) hf.size)
    (fun q hq => by cases hq) (fun q hq => h.sp q (h.sH q hq))
  have hSS : ∀ k, S' k ↔ S k := fun k => ⟨fun hk => by
    rcases hs3 k hk with e | e | e
    · exact e
    · exact h.sH k e
    · exact absurd e (fun e => by cases e), hs2 k⟩
  exact ⟨_, hb.same hSS⟩
/-- what take shows -/
def TakeOut (S P : Nat → Prop) (B : Nat) (o : Out) (s : List Out) (w : World) (e : Ending) (w' : World) : Prop :=
  ∃ E, e = .returned (ev E) ∧ outE E = o ∧ OwnE w' w.heap.size E ∧ ∃ p', BufIn S P w' B s p' ∧ Fr S w w'
set_option maxHeartbeats 8000000 in
theorem btake_any (S P : Nat → Prop) (B : Nat) (o : Out) (s : List Out) (p : Bp) (w : World) (h : BufIn S P w B (o :: s) p) (hn : s.length ≤ 100000) (hps : o.2.2.2.2.length ≤ 1000000) :
    Calls Try.prog 81 #[.pointer (some ⟨B, 0, none⟩), .int .i64 (otm o)] w (TakeOut S P B o s w) := by
  obtain ⟨t, htt⟩ : ∃ t, t = otm o := ⟨_, rfl⟩
  rw [← htt]
  have HT := Lib.hid htt
  have hgr : gr t (o :: s) = o :: gr t s := by rw [gr_cons, if_pos htt.symm]
  have hout := h.out t
  rw [hgr] at hout
  obtain ⟨E1, R1, hR, ho1, ho2⟩ : ∃ E1 R1, p.R t = E1 :: R1 ∧ outE E1 = o ∧ R1.map outE = gr t s := by
    cases hc : p.R t with
    | nil => rw [hc] at hout; cases hout
    | cons E1 R1 =>
      rw [hc, List.map_cons] at hout
      exact ⟨E1, R1, rfl, (List.cons.inj hout).1, (List.cons.inj hout).2⟩
  obtain ⟨g, off, c, hrow, hra⟩ : ∃ g off c, p.m t = .slice (some ⟨g, off, none⟩) (R1.length + 1) c ∧ RowAt w g off (R1.length + 1) c (E1 :: R1) := by
    rcases h.rows t with ⟨-, e⟩ | ⟨g, off, c, e, hr⟩
    · rw [hR] at e; cases e
    · rw [hR] at e hr; exact ⟨g, off, c, e, hr⟩
  have HH := Lib.hid h
  have HR := Lib.hid hR
  have HO := Lib.hid (show outE E1 = o ∧ R1.map outE = gr t s from ⟨ho1, ho2⟩)
  have HROW := Lib.hid hrow
  have HRA0 := Lib.hid hra
  have hpE := h.props t E1 (by rw [hR]; exact List.mem_cons_self ..)
  have HEA := Lib.hid hpE.1
  obtain ⟨pe, ne, ce, hev1⟩ := hpE.1.isE
  have HPM := Lib.hid (show ∀ q, E1.v.ownBlock = some q → ¬ q = p.M from fun q hq e => h.sp q (by rw [e]; exact h.sM) (hpE.2 q hq))
  have HPS := Lib.hid (show ∀ q, E1.v.ownBlock = some q → ¬ p.SH q from fun q hq e => h.sp q (h.sH q e) (hpE.2 q hq))
  have hnp : E1.ps.length ≤ 1000000 := by rw [← ho1] at hps; exact hps
  have hgne := h.ne.2 t g (by rw [hrow]; rfl)
  have hgM : ¬ g = p.M := hgne.2
  have hgSH : ¬ p.SH g := h.hR t g (by rw [hrow]; rfl)
  have hBM : ¬ B = p.M := h.ne.1
  have hSHM : ¬ p.SH p.M := h.hM
  have hSHB : ¬ p.SH B := h.hB
  have hMlt : p.M < w.heap.size := h.lt _ (.inl h.sM)
  have hDSH : ¬ p.SH w.heap.size := fun e => by have := h.lt _ (.inl (h.sH _ e)); omega
  have hDM : ¬ w.heap.size = p.M := by omega
  have HRG := Lib.hid (show InR t by rw [htt]; exact h.rng o (List.mem_cons_self ..))
  have HKL := Lib.hid (show p.ks.length ≤ 100001 by have := h.klen; simp at this; omega)
  have HHL := Lib.hid (show p.hs.length ≤ 100001 by have := h.hlen; simp at this; omega)
  obtain ⟨bc0, bc1⟩ := box2b h
  have hgB : G w (w.alloc (.cells #[.string ⟨#[]⟩, .string ⟨#[]⟩, .string ⟨#[]⟩, .int .i64 0, .slice none 0 0] 51)) := (G.refl w).alloc _
  have HDB := Lib.hid (alloc_new w (.cells #[.string ⟨#[]⟩, .string ⟨#[]⟩, .string ⟨#[]⟩, .int .i64 0, .slice none 0 0] 51))
  have hDlt : w.heap.size < (w.alloc (.cells #[.string ⟨#[]⟩, .string ⟨#[]⟩, .string ⟨#[]⟩, .int .i64 0, .slice none 0 0] 51)).heap.size := by simp
  have HMAP := Lib.hid (h.map.g hgB)
  have HLK := Lib.hid ((h.map.g hgB).look HRG.out).1
  have HHAT := Lib.hid (h.hat.g hgB)
  have HRA : Hid (RowAt (w.alloc (.cells #[.string ⟨#[]⟩, .string ⟨#[]⟩, .string ⟨#[]⟩, .int .i64 0, .slice none 0 0] 51)) g off (R1.length + 1) c (E1 :: R1)) := Lib.hid (hra.fr (hgB.fr (fun _ => False)) (fun h => h))
  have HEA : Hid (EdgAt (w.alloc (.cells #[.string ⟨#[]⟩, .string ⟨#[]⟩, .string ⟨#[]⟩, .int .i64 0, .slice none 0 0] 51)) E1) := Lib.hid (hpE.1.g hgB)
  rw [hrow] at HLK
  obtain ⟨n, hnn⟩ : ∃ n, n = R1.length + 1 := ⟨_, rfl⟩
  have HNN := Lib.hid hnn
  have hcn : n ≤ c := by rw [hnn]; exact hra.cap.1
  have hc63 : c ≤ 9223372036854775807 := hra.cap.2
  rw [← hnn] at HLK HRA HROW
  have hn0 : 1 ≤ n := by omega
  have hnb : n ≤ 200000 := by have := h.lenle t; rw [hR] at this; simp at this; omega
  obtain ⟨M, hM⟩ : ∃ M, M = p.M := ⟨_, rfl⟩
  obtain ⟨H, hH⟩ : ∃ M, M = p.H := ⟨_, rfl⟩
  have HM := Lib.hid hM
  have HHH := Lib.hid hH
  rw [← hM] at bc1 HLK hgM hBM hSHM hMlt hDM HPM
  rw [← hM] at HMAP
  rw [← hH] at bc0 HHAT
  clear h hR ho1 ho2 hrow hpE hgne hra hnn hM hH htt hgr hout hps
  go_enter Try.func81, Try.ntmps81
  go_upto_region 1 with fail
  have bc1 := hgB.cell bc1
  have bc0 := hgB.cell bc0
  have hKz := HLK.out
  generalize (w.alloc (.cells #[.string ⟨#[]⟩, .string ⟨#[]⟩, .string ⟨#[]⟩, .int .i64 0, .slice none 0 0] 51)) = WB at hgB bc0 bc1 HDB HMAP HLK HHAT HRA HEA hDlt hKz ⊢
  clear HLK
  by_cases hn2 : 2 ≤ n
  · have hx1 : ¬ c = 1 := by omega
    have hx2 : ¬ n = 1 := by omega
    have hx3 : ¬ (n : Int) = 1 := by omega
    have hx4 : (1 : Int) ≤ (n : Int) := by omega
    have hx5 : ¬ n = 0 := by omega
    have hx6 : 0 < n := by omega
    go_upto_region 2 with fail
    obtain ⟨WD, hWD⟩ : ∃ WD : World, WD = WB.drew := ⟨_, rfl⟩
    have hsD : G WB WD := by rw [hWD]; exact (G.refl WB).drew
    refine region_hlW (fun w' => G WB w') 7 8 (by kernel_rfl) rfl ?_
    intro Q0 HQ0
    simp only [List.replicate_succ, List.replicate_zero]
    rw [← hWD]
    clear hWD
    refine hl_take_np 0 (by kernel_rfl) (by kernel_rfl) rfl (by kernel_rfl) hsD (v := ?_) ?_ ?_
    rotate_left
    · (rintro x hx; have k_bc1 := hx.cell bc1; clear hx; go_simp; try rfl)
    simp only [Act.put, List.setIfInBounds_toArray, List.set_cons_zero, List.set_cons_succ]
    refine hl_take_np 1 (by kernel_rfl) (by kernel_rfl) rfl (by kernel_rfl) hsD (v := ?_) ?_ ?_
    rotate_left
    · (rintro x hx; have k_bc1 := hx.cell bc1; clear hx; go_simp; try rfl)
    simp only [Act.put, List.setIfInBounds_toArray, List.set_cons_zero, List.set_cons_succ]
    refine hl_take_np 2 (by kernel_rfl) (by kernel_rfl) rfl (by kernel_rfl) hsD (v := ?_) ?_ ?_
    rotate_left
    · (rintro x hx; have k_bc1 := hx.cell bc1; clear hx; go_simp; try rfl)
    simp only [Act.put, List.setIfInBounds_toArray, List.set_cons_zero, List.set_cons_succ]
    refine hl_take_np 3 (by kernel_rfl) (by kernel_rfl) rfl (by kernel_rfl) hsD (v := ?_) ?_ ?_
    rotate_left
    · (rintro x hx; have k_bc1 := hx.cell bc1; clear hx; go_simp; try rfl)
    simp only [Act.put, List.setIfInBounds_toArray, List.set_cons_zero, List.set_cons_succ]
    refine hl_take_np 4 (by kernel_rfl) (by kernel_rfl) rfl (by kernel_rfl) hsD (v := ?_) ?_ ?_
    rotate_left
    · (rintro x hx; have k_bc1 := hx.cell bc1; clear hx; go_simp; try rfl)
    simp only [Act.put, List.setIfInBounds_toArray, List.set_cons_zero, List.set_cons_succ]
    refine hl_take_np 5 (by kernel_rfl) (by kernel_rfl) rfl (by kernel_rfl) hsD (v := ?_) ?_ ?_
    rotate_left
    · (rintro x hx; have k_bc1 := hx.cell bc1; clear hx; go_simp; try rfl)
    simp only [Act.put, List.setIfInBounds_toArray, List.set_cons_zero, List.set_cons_succ]
    refine hl_take_np 6 (by kernel_rfl) (by kernel_rfl) rfl (by kernel_rfl) hsD (v := ?_) ?_ ?_
    rotate_left
    · (rintro x hx; have k_bc1 := hx.cell bc1; clear hx; go_simp; try rfl)
    simp only [Act.put, List.setIfInBounds_toArray, List.set_cons_zero, List.set_cons_succ]
    obtain ⟨W2, hr2, hm2, hf2⟩ := (HMAP.out.g hsD).store (t := t) HRG.out (by have := HKL.out; unfold maxLen; omega) (some ⟨g, off + 5, none⟩) (n - 1) (c - 1)
    refine hl_stepW 7 (by kernel_rfl) rfl (by kernel_rfl) ?_
    intro K hK
    go_simp
    refine hK _ _ (fun h => absurd rfl h) ?_
    clear hK K
    simp only [Act.put, List.setIfInBounds_toArray, List.set_cons_zero, List.set_cons_succ]
    refine hl_done (by kernel_rfl) ?_ _
    refine NoPanic.normal (HQ0.out _ _ ?_)
    clear HQ0
    have hf2B : Fr (fun q => q = M) WB W2 := (hsD.fr _).trans hf2 (fun _ _ h => h)
    have HD2 := (hf2B.block w.heap.size hDlt hDM).trans HDB.out
    clear hf2 hsD hr2 hKz
    have HF3 : Hid (Fr (fun q => p.SH q ∨ q = M) WB W2) := Lib.hid (hf2B.mono (fun _ h => .inr h))
    have HP3 : Hid (∃ p', BufIn S P W2 B s p') := Lib.hid (by
      rw [HM.out] at hm2 hf2B
      rw [show n - 1 = R1.length by have := HNN.out; omega] at hm2
      exact take_more HH.out HR.out HT.out HO.out.2 (by rw [← HNN.out]; exact HROW.out) HRA0.out (fun e => by have h1 := HNN.out; rw [e] at h1; simp at h1; omega) ((hgB.fr _).trans hf2B (fun _ _ h => h)) hm2)
    obtain ⟨W3, hW3⟩ : ∃ X, X = W2 := ⟨_, rfl⟩
    rw [← hW3] at HP3 HF3 HD2 ⊢
    clear hm2 hW3
    clear hf2B
    have hra3 : RowAt W3 g off n c (E1 :: R1) := HRA.out.fr HF3.out (fun e => e.elim hgSH hgM)
    have z0 : W3.cell? ⟨g, off, none⟩ = some (.string E1.f) := hra3.cell (j := 0) rfl
    have z1 : W3.cell? ⟨g, off + 1, none⟩ = some (.string E1.t) := hra3.cell (j := 1) rfl
    have z2 : W3.cell? ⟨g, off + 2, none⟩ = some (.string E1.l) := hra3.cell (j := 2) rfl
    have z3 : W3.cell? ⟨g, off + 3, none⟩ = some (.int .i64 E1.tm) := hra3.cell (j := 3) rfl
    have z4 : W3.cell? ⟨g, off + 4, none⟩ = some (.slice pe ne ce) := by have := hra3.cell (j := 4) (v := E1.v) rfl; rw [hev1] at this; exact this
    have HCP := Lib.hid (copied_any E1 W3 (HEA.out.fr HF3.out (fun q hq e => e.elim (HPS.out q hq) (HPM.out q hq))) hnp)
    have hEv1 : ev E1 = .agg #[.string E1.f, .string E1.t, .string E1.l, .int .i64 E1.tm, .slice pe ne ce] := by unfold ev; rw [hev1]
    rw [hEv1] at HCP
    have hw3 : w.heap.size ≤ W3.heap.size := by have h1 := hgB.size; have h2 := HF3.out.size; omega
    have hDlt3 : w.heap.size < W3.heap.size := by have h2 := HF3.out.size; omega
    have hFw3 : Fr S w W3 := ((hgB.fr S).trans HF3.out (fun q _ e => e.elim (HH.out.sH q) (fun e => by rw [e, HM.out]; exact HH.out.sM)))
    clear hra3 HF3
    go_wp2_with fail
    refine HCP.out.mono ?_
    rintro e W4 ⟨u, rfl, hown, hg4⟩
    have HD4 := (hg4.block hDlt3).trans HD2
    obtain ⟨up, uc, hu⟩ := ownsRow_shape hown.own
    have hev2 : ev (lentE E1 u) = .agg #[.string E1.f, .string E1.t, .string E1.l, .int .i64 E1.tm, .slice up (lentE E1 u).ps.length uc] := by
      have h1 : (lentE E1 u).v = .slice up (lentE E1 u).ps.length uc := hu
      unfold ev; rw [h1]; rfl
    have HEV2 := Lib.hid hev2
    rw [hev2]
    have hul : ∀ q, u.ownBlock = some q → W3.heap.size ≤ q := fun q hq => (hown.own.lt q hq).1
    have hFin : Hid (∀ W8, Fr (fun q => q = w.heap.size) W4 W8 → TakeOut S P B o s w (.returned (ev (lentE E1 u))) W8) := Lib.hid (fun W8 hf8 => by
      obtain ⟨p', hp'⟩ := HP3.out
      refine ⟨lentE E1 u, rfl, HO.out.1, ?_, p', (hp'.g hg4).fr hf8 (fun q hq e => ?_), (hFw3.trans (hg4.fr S) (fun _ _ h => h)).trans hf8 (fun q hq e => by omega)⟩
      · have h1 := hown.fr hf8 (fun q hq e => by have := hul q hq; omega)
        exact ⟨ownsRow_mono h1.own hw3, h1.n, h1.ps, h1.f, h1.t, h1.l⟩
      · have := HH.out.lt q hq; omega)
    generalize (lentE E1 u).ps.length = un at HEV2 ⊢
    clear hown hu hev2 hul HCP HP3 HD2 z0 z1 z2 z3 z4 hEv1
    obtain ⟨c0, c1, c2, c3, c4⟩ := cells5 HD4
    have y0 : W4.frozen? ⟨w.heap.size, 0, none⟩ = false := by unfold World.frozen?; rw [HD4]; simp
    have y1 : W4.frozen? ⟨w.heap.size, 1, none⟩ = false := by unfold World.frozen?; rw [HD4]; simp
    have y2 : W4.frozen? ⟨w.heap.size, 2, none⟩ = false := by unfold World.frozen?; rw [HD4]; simp
    have y3 : W4.frozen? ⟨w.heap.size, 3, none⟩ = false := by unfold World.frozen?; rw [HD4]; simp
    have y5 : W4.frozen? ⟨w.heap.size, 4, none⟩ = false := by unfold World.frozen?; rw [HD4]; simp
    obtain ⟨hf8, hr8⟩ := set5f HD4 (.string E1.f) (.string E1.t) (.string E1.l) (.int .i64 E1.tm) (.slice up un uc)
    obtain ⟨q0, q1, q2, q3, q4⟩ := cells5 hr8
    obtain ⟨WF, hWF⟩ : ∃ X : World, X = (((((W4.setCell ⟨w.heap.size, 0, none⟩ (.string E1.f)).setCell ⟨w.heap.size, 1, none⟩ (.string E1.t)).setCell ⟨w.heap.size, 2, none⟩ (.string E1.l)).setCell ⟨w.heap.size, 3, none⟩ (.int .i64 E1.tm)).setCell ⟨w.heap.size, 4, none⟩ (.slice up un uc)) := ⟨_, rfl⟩
    have HWF := Lib.hid hWF
    rw [← hWF] at hf8 q0 q1 q2 q3 q4
    have hFF := hFin.out WF hf8
    rw [HEV2.out] at hFF
    clear hr8 hWF hFin HEV2
    go_wp2_with fail
    rw [← HWF.out]
    refine bodyPost_ret (v := .agg #[.string E1.f, .string E1.t, .string E1.l, .int .i64 E1.tm, .slice up un uc]) ?_ rfl hFF
    simp [results, Try.results81, go_sem, q0, q1, q2, q3, q4]
  · obtain rfl : n = 1 := by omega
    by_cases hc1 : c = 1
    · subst hc1
      go_upto_region 2 with fail
      obtain ⟨WD, hWD⟩ : ∃ WD : World, WD = WB.drew := ⟨_, rfl⟩
      have hsD : G WB WD := by rw [hWD]; exact (G.refl WB).drew
      refine region_hlW (fun w' => G WB w') 7 8 (by kernel_rfl) rfl ?_
      intro Q0 HQ0
      simp only [List.replicate_succ, List.replicate_zero]
      rw [← hWD]
      clear hWD
      refine hl_take_np 0 (by kernel_rfl) (by kernel_rfl) rfl (by kernel_rfl) hsD (v := ?_) ?_ ?_
      rotate_left
      · (rintro x hx; have k_bc1 := hx.cell bc1; clear hx; go_simp; try rfl)
      simp only [Act.put, List.setIfInBounds_toArray, List.set_cons_zero, List.set_cons_succ]
      refine hl_take_np 1 (by kernel_rfl) (by kernel_rfl) rfl (by kernel_rfl) hsD (v := ?_) ?_ ?_
      rotate_left
      · (rintro x hx; have k_bc1 := hx.cell bc1; clear hx; go_simp; try rfl)
      simp only [Act.put, List.setIfInBounds_toArray, List.set_cons_zero, List.set_cons_succ]
      refine hl_take_np 2 (by kernel_rfl) (by kernel_rfl) rfl (by kernel_rfl) hsD (v := ?_) ?_ ?_
      rotate_left
      · (rintro x hx; have k_bc1 := hx.cell bc1; clear hx; go_simp; try rfl)
      simp only [Act.put, List.setIfInBounds_toArray, List.set_cons_zero, List.set_cons_succ]
      refine hl_take_np 3 (by kernel_rfl) (by kernel_rfl) rfl (by kernel_rfl) hsD (v := ?_) ?_ ?_
      rotate_left
      · (rintro x hx; have k_bc1 := hx.cell bc1; clear hx; go_simp; try rfl)
      simp only [Act.put, List.setIfInBounds_toArray, List.set_cons_zero, List.set_cons_succ]
      refine hl_take_np 4 (by kernel_rfl) (by kernel_rfl) rfl (by kernel_rfl) hsD (v := ?_) ?_ ?_
      rotate_left
      · (rintro x hx; have k_bc1 := hx.cell bc1; clear hx; go_simp; try rfl)
      simp only [Act.put, List.setIfInBounds_toArray, List.set_cons_zero, List.set_cons_succ]
      refine hl_take_np 5 (by kernel_rfl) (by kernel_rfl) rfl (by kernel_rfl) hsD (v := ?_) ?_ ?_
      rotate_left
      · (rintro x hx; have k_bc1 := hx.cell bc1; clear hx; go_simp; try rfl)
      simp only [Act.put, List.setIfInBounds_toArray, List.set_cons_zero, List.set_cons_succ]
      refine hl_take_np 6 (by kernel_rfl) (by kernel_rfl) rfl (by kernel_rfl) hsD (v := ?_) ?_ ?_
      rotate_left
      · (rintro x hx; have k_bc1 := hx.cell bc1; clear hx; go_simp; try rfl)
      simp only [Act.put, List.setIfInBounds_toArray, List.set_cons_zero, List.set_cons_succ]
      obtain ⟨W2, hr2, hm2, hf2⟩ := (HMAP.out.g hsD).store (t := t) HRG.out (by have := HKL.out; unfold maxLen; omega) (some ⟨g, off, none⟩) 0 0
      refine hl_stepW 7 (by kernel_rfl) rfl (by kernel_rfl) ?_
      intro K hK
      go_simp
      refine hK _ _ (fun h => absurd rfl h) ?_
      clear hK K
      simp only [Act.put, List.setIfInBounds_toArray, List.set_cons_zero, List.set_cons_succ]
      refine hl_done (by kernel_rfl) ?_ _
      refine NoPanic.normal (HQ0.out _ _ ?_)
      clear HQ0
      have hf2B : Fr (fun q => q = M) WB W2 := (hsD.fr _).trans hf2 (fun _ _ h => h)
      have HD2 := (hf2B.block w.heap.size hDlt hDM).trans HDB.out
      clear hf2 hsD hr2 hKz
      go_upto_region 4 with fail
      have bc0 := hf2B.cell hBM bc0
      have bc1 := hf2B.cell hBM bc1
      go_wp2_with fail
      refine (pop_any p.SH H p.v p.hs W2 (HHAT.out.fr hf2B (fun q hq e => hSHM (by rw [← e]; exact hq))) (by have := HHL.out; omega)).mono ?_
      rintro e W2' ⟨rfl, v', hatp, hfp⟩
      have bc1 := hfp.cell hSHB bc1
      have HD2 := (hfp.block w.heap.size (by have := hf2B.size; omega) hDSH).trans HD2
      obtain ⟨WE, hrE, hmE, hfE⟩ := (hm2.fr hfp hSHM).drop (t := t) HRG.out 0
      have hrE2 : ∀ ty, (Builtin.delete_ #[79, 3] ty #[.map (some M), .int .i64 t]).run Try.prog W2' = .ok (.tuple #[]) WE := fun ty => hrE
      have HD2 := (hfE.block w.heap.size (by have := hf2B.size; have := hfp.size; omega) hDM).trans HD2
      go_upto_region 6 with fail
      have HF3 : Hid (Fr (fun q => p.SH q ∨ q = M) WB WE) := Lib.hid (((hf2B.mono (fun _ h => .inr h)).trans (T := fun q => p.SH q ∨ q = M) (hfp.mono (fun _ h => .inl h)) (fun _ _ h => h)).trans (T := fun q => p.SH q ∨ q = M) (hfE.mono (fun _ h => .inr h)) (fun _ _ h => h))
      have HP3 : Hid (∃ p', BufIn S P WE B s p') := Lib.hid (by
        have hfw := (hgB.fr (fun q => p.SH q ∨ q = M)).trans HF3.out (fun _ _ h => h)
        have hat3 := hatp.fr hfE (fun q hq e => hSHM (by rw [← e]; exact hq))
        rw [HM.out] at hmE hfw
        rw [HHH.out] at hat3
        exact take_last HH.out HR.out HT.out (List.eq_nil_of_length_eq_zero (by have := HNN.out; omega)) hfw hat3 hmE)
      obtain ⟨W3, hW3⟩ : ∃ X, X = WE := ⟨_, rfl⟩
      rw [← hW3] at HP3 HF3 HD2 ⊢
      clear hm2 hf2B hatp hfp hmE hfE hrE hrE2 hW3 bc0 bc1
      have hra3 : RowAt W3 g off 1 1 (E1 :: R1) := HRA.out.fr HF3.out (fun e => e.elim hgSH hgM)
      have z0 : W3.cell? ⟨g, off, none⟩ = some (.string E1.f) := hra3.cell (j := 0) rfl
      have z1 : W3.cell? ⟨g, off + 1, none⟩ = some (.string E1.t) := hra3.cell (j := 1) rfl
      have z2 : W3.cell? ⟨g, off + 2, none⟩ = some (.string E1.l) := hra3.cell (j := 2) rfl
      have z3 : W3.cell? ⟨g, off + 3, none⟩ = some (.int .i64 E1.tm) := hra3.cell (j := 3) rfl
      have z4 : W3.cell? ⟨g, off + 4, none⟩ = some (.slice pe ne ce) := by have := hra3.cell (j := 4) (v := E1.v) rfl; rw [hev1] at this; exact this
      have HCP := Lib.hid (copied_any E1 W3 (HEA.out.fr HF3.out (fun q hq e => e.elim (HPS.out q hq) (HPM.out q hq))) hnp)
      have hEv1 : ev E1 = .agg #[.string E1.f, .string E1.t, .string E1.l, .int .i64 E1.tm, .slice pe ne ce] := by unfold ev; rw [hev1]
      rw [hEv1] at HCP
      have hw3 : w.heap.size ≤ W3.heap.size := by have h1 := hgB.size; have h2 := HF3.out.size; omega
      have hDlt3 : w.heap.size < W3.heap.size := by have h2 := HF3.out.size; omega
      have hFw3 : Fr S w W3 := ((hgB.fr S).trans HF3.out (fun q _ e => e.elim (HH.out.sH q) (fun e => by rw [e, HM.out]; exact HH.out.sM)))
      clear hra3 HF3
      go_wp2_with fail
      refine HCP.out.mono ?_
      rintro e W4 ⟨u, rfl, hown, hg4⟩
      have HD4 := (hg4.block hDlt3).trans HD2
      obtain ⟨up, uc, hu⟩ := ownsRow_shape hown.own
      have hev2 : ev (lentE E1 u) = .agg #[.string E1.f, .string E1.t, .string E1.l, .int .i64 E1.tm, .slice up (lentE E1 u).ps.length uc] := by
        have h1 : (lentE E1 u).v = .slice up (lentE E1 u).ps.length uc := hu
        unfold ev; rw [h1]; rfl
      have HEV2 := Lib.hid hev2
      rw [hev2]
      have hul : ∀ q, u.ownBlock = some q → W3.heap.size ≤ q := fun q hq => (hown.own.lt q hq).1
      have hFin : Hid (∀ W8, Fr (fun q => q = w.heap.size) W4 W8 → TakeOut S P B o s w (.returned (ev (lentE E1 u))) W8) := Lib.hid (fun W8 hf8 => by
        obtain ⟨p', hp'⟩ := HP3.out
        refine ⟨lentE E1 u, rfl, HO.out.1, ?_, p', (hp'.g hg4).fr hf8 (fun q hq e => ?_), (hFw3.trans (hg4.fr S) (fun _ _ h => h)).trans hf8 (fun q hq e => by omega)⟩
        · have h1 := hown.fr hf8 (fun q hq e => by have := hul q hq; omega)
          exact ⟨ownsRow_mono h1.own hw3, h1.n, h1.ps, h1.f, h1.t, h1.l⟩
        · have := HH.out.lt q hq; omega)
      generalize (lentE E1 u).ps.length = un at HEV2 ⊢
      clear hown hu hev2 hul HCP HP3 HD2 z0 z1 z2 z3 z4 hEv1
      obtain ⟨c0, c1, c2, c3, c4⟩ := cells5 HD4
      have y0 : W4.frozen? ⟨w.heap.size, 0, none⟩ = false := by unfold World.frozen?; rw [HD4]; simp
      have y1 : W4.frozen? ⟨w.heap.size, 1, none⟩ = false := by unfold World.frozen?; rw [HD4]; simp
      have y2 : W4.frozen? ⟨w.heap.size, 2, none⟩ = false := by unfold World.frozen?; rw [HD4]; simp
      have y3 : W4.frozen? ⟨w.heap.size, 3, none⟩ = false := by unfold World.frozen?; rw [HD4]; simp
      have y5 : W4.frozen? ⟨w.heap.size, 4, none⟩ = false := by unfold World.frozen?; rw [HD4]; simp
      obtain ⟨hf8, hr8⟩ := set5f HD4 (.string E1.f) (.string E1.t) (.string E1.l) (.int .i64 E1.tm) (.slice up un uc)
      obtain ⟨q0, q1, q2, q3, q4⟩ := cells5 hr8
      obtain ⟨WF, hWF⟩ : ∃ X : World, X = (((((W4.setCell ⟨w.heap.size, 0, none⟩ (.string E1.f)).setCell ⟨w.heap.size, 1, none⟩ (.string E1.t)).setCell ⟨w.heap.size, 2, none⟩ (.string E1.l)).setCell ⟨w.heap.size, 3, none⟩ (.int .i64 E1.tm)).setCell ⟨w.heap.size, 4, none⟩ (.slice up un uc)) := ⟨_, rfl⟩
      have HWF := Lib.hid hWF
      rw [← hWF] at hf8 q0 q1 q2 q3 q4
      have hFF := hFin.out WF hf8
      rw [HEV2.out] at hFF
      clear hr8 hWF hFin HEV2
      go_wp2_with fail
      rw [← HWF.out]
      refine bodyPost_ret (v := .agg #[.string E1.f, .string E1.t, .string E1.l, .int .i64 E1.tm, .slice up un uc]) ?_ rfl hFF
      simp [results, Try.results81, go_sem, q0, q1, q2, q3, q4]
    · have hx1 : ¬ c = 1 := hc1
      go_upto_region 2 with fail
      obtain ⟨WD, hWD⟩ : ∃ WD : World, WD = WB.drew := ⟨_, rfl⟩
      have hsD : G WB WD := by rw [hWD]; exact (G.refl WB).drew
      refine region_hlW (fun w' => G WB w') 7 8 (by kernel_rfl) rfl ?_
      intro Q0 HQ0
      simp only [List.replicate_succ, List.replicate_zero]
      rw [← hWD]
      clear hWD
      refine hl_take_np 0 (by kernel_rfl) (by kernel_rfl) rfl (by kernel_rfl) hsD (v := ?_) ?_ ?_
      rotate_left
      · (rintro x hx; have k_bc1 := hx.cell bc1; clear hx; go_simp; try rfl)
      simp only [Act.put, List.setIfInBounds_toArray, List.set_cons_zero, List.set_cons_succ]
      refine hl_take_np 1 (by kernel_rfl) (by kernel_rfl) rfl (by kernel_rfl) hsD (v := ?_) ?_ ?_
      rotate_left
      · (rintro x hx; have k_bc1 := hx.cell bc1; clear hx; go_simp; try rfl)
      simp only [Act.put, List.setIfInBounds_toArray, List.set_cons_zero, List.set_cons_succ]
      refine hl_take_np 2 (by kernel_rfl) (by kernel_rfl) rfl (by kernel_rfl) hsD (v := ?_) ?_ ?_
      rotate_left
      · (rintro x hx; have k_bc1 := hx.cell bc1; clear hx; go_simp; try rfl)
      simp only [Act.put, List.setIfInBounds_toArray, List.set_cons_zero, List.set_cons_succ]
      refine hl_take_np 3 (by kernel_rfl) (by kernel_rfl) rfl (by kernel_rfl) hsD (v := ?_) ?_ ?_
      rotate_left
      · (rintro x hx; have k_bc1 := hx.cell bc1; clear hx; go_simp; try rfl)
      simp only [Act.put, List.setIfInBounds_toArray, List.set_cons_zero, List.set_cons_succ]
      refine hl_take_np 4 (by kernel_rfl) (by kernel_rfl) rfl (by kernel_rfl) hsD (v := ?_) ?_ ?_
      rotate_left
      · (rintro x hx; have k_bc1 := hx.cell bc1; clear hx; go_simp; try rfl)
      simp only [Act.put, List.setIfInBounds_toArray, List.set_cons_zero, List.set_cons_succ]
      refine hl_take_np 5 (by kernel_rfl) (by kernel_rfl) rfl (by kernel_rfl) hsD (v := ?_) ?_ ?_
      rotate_left
      · (rintro x hx; have k_bc1 := hx.cell bc1; clear hx; go_simp; try rfl)
      simp only [Act.put, List.setIfInBounds_toArray, List.set_cons_zero, List.set_cons_succ]
      refine hl_take_np 6 (by kernel_rfl) (by kernel_rfl) rfl (by kernel_rfl) hsD (v := ?_) ?_ ?_
      rotate_left
      · (rintro x hx; have k_bc1 := hx.cell bc1; clear hx; go_simp; try rfl)
      simp only [Act.put, List.setIfInBounds_toArray, List.set_cons_zero, List.set_cons_succ]
      obtain ⟨W2, hr2, hm2, hf2⟩ := (HMAP.out.g hsD).store (t := t) HRG.out (by have := HKL.out; unfold maxLen; omega) (some ⟨g, off + 5, none⟩) 0 (c - 1)
      refine hl_stepW 7 (by kernel_rfl) rfl (by kernel_rfl) ?_
      intro K hK
      go_simp
      refine hK _ _ (fun h => absurd rfl h) ?_
      clear hK K
      simp only [Act.put, List.setIfInBounds_toArray, List.set_cons_zero, List.set_cons_succ]
      refine hl_done (by kernel_rfl) ?_ _
      refine NoPanic.normal (HQ0.out _ _ ?_)
      clear HQ0
      have hf2B : Fr (fun q => q = M) WB W2 := (hsD.fr _).trans hf2 (fun _ _ h => h)
      have HD2 := (hf2B.block w.heap.size hDlt hDM).trans HDB.out
      clear hf2 hsD hr2 hKz
      go_upto_region 4 with fail
      have bc0 := hf2B.cell hBM bc0
      have bc1 := hf2B.cell hBM bc1
      go_wp2_with fail
      refine (pop_any p.SH H p.v p.hs W2 (HHAT.out.fr hf2B (fun q hq e => hSHM (by rw [← e]; exact hq))) (by have := HHL.out; omega)).mono ?_
      rintro e W2' ⟨rfl, v', hatp, hfp⟩
      have bc1 := hfp.cell hSHB bc1
      have HD2 := (hfp.block w.heap.size (by have := hf2B.size; omega) hDSH).trans HD2
      obtain ⟨WE, hrE, hmE, hfE⟩ := (hm2.fr hfp hSHM).drop (t := t) HRG.out 0
      have hrE2 : ∀ ty, (Builtin.delete_ #[79, 3] ty #[.map (some M), .int .i64 t]).run Try.prog W2' = .ok (.tuple #[]) WE := fun ty => hrE
      have HD2 := (hfE.block w.heap.size (by have := hf2B.size; have := hfp.size; omega) hDM).trans HD2
      go_upto_region 6 with fail
      have HF3 : Hid (Fr (fun q => p.SH q ∨ q = M) WB WE) := Lib.hid (((hf2B.mono (fun _ h => .inr h)).trans (T := fun q => p.SH q ∨ q = M) (hfp.mono (fun _ h => .inl h)) (fun _ _ h => h)).trans (T := fun q => p.SH q ∨ q = M) (hfE.mono (fun _ h => .inr h)) (fun _ _ h => h))
      have HP3 : Hid (∃ p', BufIn S P WE B s p') := Lib.hid (by
        have hfw := (hgB.fr (fun q => p.SH q ∨ q = M)).trans HF3.out (fun _ _ h => h)
        have hat3 := hatp.fr hfE (fun q hq e => hSHM (by rw [← e]; exact hq))
        rw [HM.out] at hmE hfw
        rw [HHH.out] at hat3
        exact take_last HH.out HR.out HT.out (List.eq_nil_of_length_eq_zero (by have := HNN.out; omega)) hfw hat3 hmE)
      obtain ⟨W3, hW3⟩ : ∃ X, X = WE := ⟨_, rfl⟩
      rw [← hW3] at HP3 HF3 HD2 ⊢
      clear hm2 hf2B hatp hfp hmE hfE hrE hrE2 hW3 bc0 bc1
      have hra3 : RowAt W3 g off 1 c (E1 :: R1) := HRA.out.fr HF3.out (fun e => e.elim hgSH hgM)
      have z0 : W3.cell? ⟨g, off, none⟩ = some (.string E1.f) := hra3.cell (j := 0) rfl
      have z1 : W3.cell? ⟨g, off + 1, none⟩ = some (.string E1.t) := hra3.cell (j := 1) rfl
      have z2 : W3.cell? ⟨g, off + 2, none⟩ = some (.string E1.l) := hra3.cell (j := 2) rfl
      have z3 : W3.cell? ⟨g, off + 3, none⟩ = some (.int .i64 E1.tm) := hra3.cell (j := 3) rfl
      have z4 : W3.cell? ⟨g, off + 4, none⟩ = some (.slice pe ne ce) := by have := hra3.cell (j := 4) (v := E1.v) rfl; rw [hev1] at this; exact this
      have HCP := Lib.hid (copied_any E1 W3 (HEA.out.fr HF3.out (fun q hq e => e.elim (HPS.out q hq) (HPM.out q hq))) hnp)
      have hEv1 : ev E1 = .agg #[.string E1.f, .string E1.t, .string E1.l, .int .i64 E1.tm, .slice pe ne ce] := by unfold ev; rw [hev1]
      rw [hEv1] at HCP
      have hw3 : w.heap.size ≤ W3.heap.size := by have h1 := hgB.size; have h2 := HF3.out.size; omega
      have hDlt3 : w.heap.size < W3.heap.size := by have h2 := HF3.out.size; omega
      have hFw3 : Fr S w W3 := ((hgB.fr S).trans HF3.out (fun q _ e => e.elim (HH.out.sH q) (fun e => by rw [e, HM.out]; exact HH.out.sM)))
      clear hra3 HF3
      go_wp2_with fail
      refine HCP.out.mono ?_
      rintro e W4 ⟨u, rfl, hown, hg4⟩
      have HD4 := (hg4.block hDlt3).trans HD2
      obtain ⟨up, uc, hu⟩ := ownsRow_shape hown.own
      have hev2 : ev (lentE E1 u) = .agg #[.string E1.f, .string E1.t, .string E1.l, .int .i64 E1.tm, .slice up (lentE E1 u).ps.length uc] := by
        have h1 : (lentE E1 u).v = .slice up (lentE E1 u).ps.length uc := hu
        unfold ev; rw [h1]; rfl
      have HEV2 := Lib.hid hev2
      rw [hev2]
      have hul : ∀ q, u.ownBlock = some q → W3.heap.size ≤ q := fun q hq => (hown.own.lt q hq).1
      have hFin : Hid (∀ W8, Fr (fun q => q = w.heap.size) W4 W8 → TakeOut S P B o s w (.returned (ev (lentE E1 u))) W8) := Lib.hid (fun W8 hf8 => by
        obtain ⟨p', hp'⟩ := HP3.out
        refine ⟨lentE E1 u, rfl, HO.out.1, ?_, p', (hp'.g hg4).fr hf8 (fun q hq e => ?_), (hFw3.trans (hg4.fr S) (fun _ _ h => h)).trans hf8 (fun q hq e => by omega)⟩
        · have h1 := hown.fr hf8 (fun q hq e => by have := hul q hq; omega)
          exact ⟨ownsRow_mono h1.own hw3, h1.n, h1.ps, h1.f, h1.t, h1.l⟩
        · have := HH.out.lt q hq; omega)
      generalize (lentE E1 u).ps.length = un at HEV2 ⊢
      clear hown hu hev2 hul HCP HP3 HD2 z0 z1 z2 z3 z4 hEv1
      obtain ⟨c0, c1, c2, c3, c4⟩ := cells5 HD4
      have y0 : W4.frozen? ⟨w.heap.size, 0, none⟩ = false := by unfold World.frozen?; rw [HD4]; simp
      have y1 : W4.frozen? ⟨w.heap.size, 1, none⟩ = false := by unfold World.frozen?; rw [HD4]; simp
      have y2 : W4.frozen? ⟨w.heap.size, 2, none⟩ = false := by unfold World.frozen?; rw [HD4]; simp
      have y3 : W4.frozen? ⟨w.heap.size, 3, none⟩ = false := by unfold World.frozen?; rw [HD4]; simp
      have y5 : W4.frozen? ⟨w.heap.size, 4, none⟩ = false := by unfold World.frozen?; rw [HD4]; simp
      obtain ⟨hf8, hr8⟩ := set5f HD4 (.string E1.f) (.string E1.t) (.string E1.l) (.int .i64 E1.tm) (.slice up un uc)
      obtain ⟨q0, q1, q2, q3, q4⟩ := cells5 hr8
      obtain ⟨WF, hWF⟩ : ∃ X : World, X = (((((W4.setCell ⟨w.heap.size, 0, none⟩ (.string E1.f)).setCell ⟨w.heap.size, 1, none⟩ (.string E1.t)).setCell ⟨w.heap.size, 2, none⟩ (.string E1.l)).setCell ⟨w.heap.size, 3, none⟩ (.int .i64 E1.tm)).setCell ⟨w.heap.size, 4, none⟩ (.slice up un uc)) := ⟨_, rfl⟩
      have HWF := Lib.hid hWF
      rw [← hWF] at hf8 q0 q1 q2 q3 q4
      have hFF := hFin.out WF hf8
      rw [HEV2.out] at hFF
      clear hr8 hWF hFin HEV2
      go_wp2_with fail
      rw [← HWF.out]
      refine bodyPost_ret (v := .agg #[.string E1.f, .string E1.t, .string E1.l, .int .i64 E1.tm, .slice up un uc]) ?_ rfl hFF
      simp [results, Try.results81, go_sem, q0, q1, q2, q3, q4]
end Go.Proofs.Ythhmmjpgefinmaa
