/- laid together: BufF BufV -/
import Derived.Test.YthhmmjpgefinmaaBufB
set_option maxRecDepth 10000
namespace Go.Proofs.Ythhmmjpgefinmaa
set_option linter.unusedVariables false
set_option linter.unusedSimpArgs false
open Go.RowKit Go.Shelf
attribute [local go_sem] Oper.semAt_some

def InR (t : Int) : Prop := -9223372036854775808 ≤ t ∧ t ≤ 9223372036854775807
set_option maxHeartbeats 4000000 in
theorem find_any (S P : Nat → Prop) (B : Nat) (s : List Out) (p : Bp) (E : Edg) (w : World) (h : BufIn S P w B s p) (hE : IsE E) (ht : InR E.tm) (hn : s.length ≤ 1000000) :
    Calls Try.prog 48 #[.pointer (some ⟨B, 0, none⟩), ev E] w fun e w' => ∃ k : Nat, Spot (p.R E.tm) E k ∧ e = .returned (.tuple #[.int .i64 k, .bool (hasO (okey (outE E)) s)]) ∧ G w w' := by
  have HS : Hid (∀ X, G w X → Calls Try.prog 61 #[p.m E.tm, ev E, CMPF] X fun e w' => ∃ k : Nat, Spot (p.R E.tm) E k ∧ e = .returned (.tuple #[.int .i64 k, .bool (hasO (okey (outE E)) s)]) ∧ G X w') := Lib.hid (fun X hX => by
    have hst : OStr ((p.R E.tm).map outE) := by rw [h.out]; exact gr_str h.str
    refine (search_any (p.R E.tm) (p.m E.tm) E X (((h.rows E.tm).fr (hX.fr (fun _ => False)) (fun _ _ h => h)).rdr) (h.rows E.tm).isE hE (by have := h.lenle E.tm; omega) (str_down hst E)).mono ?_
    rintro e w' ⟨k, hk, rfl, hg⟩
    refine ⟨k, hk, ?_, hg⟩
    rw [spot_is hst hk, h.out, show E.tm = (okey (outE E)).1 from rfl, hasO_gr])
  obtain ⟨bc0, bc1⟩ := box2b h
  have HM := Lib.hid (show ∀ X, G w X → (Instr.lookup 79 (.map (some p.M)) (.int .i64 E.tm) false).run Try.prog X = .ok (p.m E.tm) X from fun X hX => ((h.map.g hX).look ht).1)
  obtain ⟨rp, rn, rc, hrow⟩ := (h.map.look ht).2
  obtain ⟨ef, et, el, em, evv, eps⟩ := E
  obtain ⟨pe, ne, ce, hev⟩ := id hE
  simp only at hev hrow HM HS ⊢
  subst hev
  generalize p.m em = row at hrow HM HS
  subst hrow
  unfold ev at HS ⊢
  simp only at HS ⊢
  generalize hasO (okey (outE ⟨ef, et, el, em, .slice pe ne ce, eps⟩)) s = is at HS ⊢
  generalize p.M = M at bc1 HM
  have hgB : G w (w.alloc (.cells #[.string ef, .string et, .string el, .int .i64 em, .slice pe ne ce] 51)) := (G.refl w).alloc _
  have d0 := cell_alloc_at w [.string ef, .string et, .string el, .int .i64 em, .slice pe ne ce] 51 (0, 0) 0 _ rfl
  have d1 := cell_alloc_at w [.string ef, .string et, .string el, .int .i64 em, .slice pe ne ce] 51 (0, 0) 1 _ rfl
  have d2 := cell_alloc_at w [.string ef, .string et, .string el, .int .i64 em, .slice pe ne ce] 51 (0, 0) 2 _ rfl
  have d3 := cell_alloc_at w [.string ef, .string et, .string el, .int .i64 em, .slice pe ne ce] 51 (0, 0) 3 _ rfl
  have d4 := cell_alloc_at w [.string ef, .string et, .string el, .int .i64 em, .slice pe ne ce] 51 (0, 0) 4 _ rfl
  simp only [Nat.zero_add] at d0 d1 d2 d3 d4
  clear h hE ht hn bc0
  go_enter Try.func48, Try.ntmps48
  go_upto_region 1 with fail
  have bc1 := hgB.cell bc1
  generalize (w.alloc (.cells #[.string ef, .string et, .string el, .int .i64 em, .slice pe ne ce] 51)) = WB at hgB d0 d1 d2 d3 d4 bc1 ⊢
  obtain ⟨WD, hWD⟩ : ∃ WD : World, WD = WB.drew := ⟨_, rfl⟩
  have hsD : G WB WD := by rw [hWD]; exact (G.refl WB).drew
  refine region_hlW (fun w' => G WB w') 99 13 (by kernel_rfl) rfl ?_
  intro Q0 HQ0
  simp only [List.replicate_succ, List.replicate_zero]
  rw [← hWD]
  clear hWD
  refine hl_take_np 0 (by kernel_rfl) (by kernel_rfl) rfl (by kernel_rfl) hsD (v := ?_) ?_ ?_
  rotate_left
  · (rintro x hx; have k_d0 := hx.cell d0; have k_d1 := hx.cell d1; have k_d2 := hx.cell d2; have k_d3 := hx.cell d3; have k_d4 := hx.cell d4; have k_bc1 := hx.cell bc1; clear hx; go_simp; try rfl)
  simp only [Act.put, List.setIfInBounds_toArray, List.set_cons_zero, List.set_cons_succ]
  refine hl_take_np 1 (by kernel_rfl) (by kernel_rfl) rfl (by kernel_rfl) hsD (v := ?_) ?_ ?_
  rotate_left
  · (rintro x hx; have k_d0 := hx.cell d0; have k_d1 := hx.cell d1; have k_d2 := hx.cell d2; have k_d3 := hx.cell d3; have k_d4 := hx.cell d4; have k_bc1 := hx.cell bc1; clear hx; go_simp; try rfl)
  simp only [Act.put, List.setIfInBounds_toArray, List.set_cons_zero, List.set_cons_succ]
  refine hl_take_np 2 (by kernel_rfl) (by kernel_rfl) rfl (by kernel_rfl) hsD (v := ?_) ?_ ?_
  rotate_left
  · (rintro x hx; have k_d0 := hx.cell d0; have k_d1 := hx.cell d1; have k_d2 := hx.cell d2; have k_d3 := hx.cell d3; have k_d4 := hx.cell d4; have k_bc1 := hx.cell bc1; clear hx; go_simp; try rfl)
  simp only [Act.put, List.setIfInBounds_toArray, List.set_cons_zero, List.set_cons_succ]
  refine hl_take_np 3 (by kernel_rfl) (by kernel_rfl) rfl (by kernel_rfl) hsD (v := ?_) ?_ ?_
  rotate_left
  · (rintro x hx; have k_d0 := hx.cell d0; have k_d1 := hx.cell d1; have k_d2 := hx.cell d2; have k_d3 := hx.cell d3; have k_d4 := hx.cell d4; have k_bc1 := hx.cell bc1; clear hx; go_simp; try rfl)
  simp only [Act.put, List.setIfInBounds_toArray, List.set_cons_zero, List.set_cons_succ]
  refine hl_take_np 4 (by kernel_rfl) (by kernel_rfl) rfl (by kernel_rfl) hsD (v := ?_) ?_ ?_
  rotate_left
  · (rintro x hx; have k_d0 := hx.cell d0; have k_d1 := hx.cell d1; have k_d2 := hx.cell d2; have k_d3 := hx.cell d3; have k_d4 := hx.cell d4; have k_bc1 := hx.cell bc1; clear hx; go_simp; try rfl)
  simp only [Act.put, List.setIfInBounds_toArray, List.set_cons_zero, List.set_cons_succ]
  refine hl_take_np 5 (by kernel_rfl) (by kernel_rfl) rfl (by kernel_rfl) hsD (v := ?_) ?_ ?_
  rotate_left
  · (rintro x hx; have k_d0 := hx.cell d0; have k_d1 := hx.cell d1; have k_d2 := hx.cell d2; have k_d3 := hx.cell d3; have k_d4 := hx.cell d4; have k_bc1 := hx.cell bc1; clear hx; go_simp; try rfl)
  simp only [Act.put, List.setIfInBounds_toArray, List.set_cons_zero, List.set_cons_succ]
  refine hl_take_np 6 (by kernel_rfl) (by kernel_rfl) rfl (by kernel_rfl) hsD (v := ?_) ?_ ?_
  rotate_left
  · (rintro x hx; have hlk := HM.out x (hgB.trans hx); clear hx; go_simp; try rfl)
  simp only [Act.put, List.setIfInBounds_toArray, List.set_cons_zero, List.set_cons_succ]
  refine hl_take_np 7 (by kernel_rfl) (by kernel_rfl) rfl (by kernel_rfl) hsD (v := ?_) ?_ ?_
  rotate_left
  · (rintro x hx; have k_d0 := hx.cell d0; have k_d1 := hx.cell d1; have k_d2 := hx.cell d2; have k_d3 := hx.cell d3; have k_d4 := hx.cell d4; have k_bc1 := hx.cell bc1; clear hx; go_simp; try rfl)
  simp only [Act.put, List.setIfInBounds_toArray, List.set_cons_zero, List.set_cons_succ]
  refine hl_stepW 8 (by kernel_rfl) rfl (by kernel_rfl) ?_
  intro K hK
  go_simp
  refine (HS.out WD (hgB.trans hsD)).mono ?_
  rintro e W2 ⟨k, hsp, rfl, hga⟩
  have hs2 : G WB W2 := hsD.trans hga
  refine hK _ _ (fun _ => hs2) ?_
  clear hK K hga d0 d1 d2 d3 d4 bc1 HM HS
  simp only [Act.put, List.setIfInBounds_toArray, List.set_cons_zero, List.set_cons_succ]
  refine hl_take_np 9 (by kernel_rfl) (by kernel_rfl) rfl (by kernel_rfl) hs2 (v := ?_) ?_ ?_
  rotate_left
  · (rintro x hx; clear hx; go_simp; try rfl)
  simp only [Act.put, List.setIfInBounds_toArray, List.set_cons_zero, List.set_cons_succ]
  refine hl_take_np 10 (by kernel_rfl) (by kernel_rfl) rfl (by kernel_rfl) hs2 (v := ?_) ?_ ?_
  rotate_left
  · (rintro x hx; clear hx; go_simp; try rfl)
  simp only [Act.put, List.setIfInBounds_toArray, List.set_cons_zero, List.set_cons_succ]
  refine hl_take_np 11 (by kernel_rfl) (by kernel_rfl) rfl (by kernel_rfl) hs2 (v := ?_) ?_ ?_
  rotate_left
  · (rintro x hx; clear hx; go_simp; try rfl)
  simp only [Act.put, List.setIfInBounds_toArray, List.set_cons_zero, List.set_cons_succ]
  refine hl_take_np 12 (by kernel_rfl) (by kernel_rfl) rfl (by kernel_rfl) hs2 (v := ?_) ?_ ?_
  rotate_left
  · (rintro x hx; clear hx; go_simp; try rfl)
  simp only [Act.put, List.setIfInBounds_toArray, List.set_cons_zero, List.set_cons_succ]
  refine hl_done (by kernel_rfl) ?_ _
  refine NoPanic.normal (HQ0.out _ _ ?_)
  clear HQ0
  have hE2 := hgB.trans hs2
  clear hsD hs2
  have HSP := Lib.hid hsp
  clear hsp
  go_wp2_with fail
  refine bodyPost_ret (v := .tuple #[.int .i64 k, .bool is]) ?_ rfl ⟨k, HSP.out, rfl, hE2⟩
  simp [results, Try.results48, go_sem]
end Go.Proofs.Ythhmmjpgefinmaa

namespace Go.Proofs.Ythhmmjpgefinmaa
set_option linter.unusedVariables false
set_option linter.unusedSimpArgs false
open Go.RowKit Go.Shelf

theorem put_fin {S P : Nat → Prop} {w W4 WD W5 W6 W7 W8 : World} {B : Nat} {s : List Out} {p : Bp} (h : BufIn S P w B s p) {E : Edg} {u : Value} {k g off c : Nat} {SH' : Nat → Prop} {v' : Value} {hs' L0 : List Item}
    (hf4 : Fr p.SH w W4) (hat4 : HeapAt SH' W4 p.H v' hs') (hk4 : HeapKeys hs' (kset p.ks E.tm) L0) (hgr : ∀ q, SH' q → p.SH q ∨ w.heap.size ≤ q) (hD : G W4 WD) (hown : OwnE W5 WD.heap.size (lentE E u)) (h5 : G WD W5) (h6 : G W5 W6)
    (hra : RowAt W7 g off ((p.R E.tm).length + 1) c ((p.R E.tm).take k ++ lentE E u :: (p.R E.tm).drop k)) (hf7 : Fr (fun q => q = g) W6 W7) (hg7 : (p.m E.tm).ownBlock = some g ∨ W6.heap.size ≤ g)
    (hm8 : MapS W8 p.M (mset p.m E.tm (.slice (some ⟨g, off, none⟩) ((p.R E.tm).length + 1) c)) (kset p.ks E.tm)) (hf8 : Fr (fun q => q = p.M) W7 W8) (hsp : Spot (p.R E.tm) E k) (hno : hasO (okey (outE E)) s = false) (hrE : InR E.tm) :
    ∃ S' P' p', BufIn S' P' W8 B (insO (outE E) s) p' ∧ (∀ k, S' k → S k ∨ w.heap.size ≤ k) ∧ (∀ k, P' k → P k ∨ w.heap.size ≤ k) ∧ (∀ k, S k → S' k) ∧ Fr S w W8 := by
  have z4 := hf4.size
  have zD := hD.size
  have z5 := h5.size
  have z6 := h6.size
  have z7 := hf7.size
  have z8 := hf8.size
  have hMlt := h.lt p.M (.inl h.sM)
  have hrl : ∀ q, (p.m E.tm).ownBlock = some q → q < w.heap.size := fun q hq => h.lt q (.inl (h.sR _ q hq))
  have hSl : ∀ q, p.SH q → q < w.heap.size := fun q hq => h.lt q (.inl (h.sH q hq))
  have hgM : ¬ g = p.M := fun e => by
    rcases hg7 with h1 | h1
    · exact (h.ne.2 _ g h1).2 e
    · omega
  have hbl : ∀ q, u.ownBlock = some q → WD.heap.size ≤ q ∧ q < W5.heap.size := fun q hq => hown.own.lt q hq
  have hbg : ∀ q, u.ownBlock = some q → ¬ q = g := fun q hq e => by
    have h1 := hbl q hq
    rcases hg7 with h2 | h2
    · have := hrl g h2; omega
    · omega
  let T : Nat → Prop := fun q => p.SH q ∨ q = p.M ∨ (p.m E.tm).ownBlock = some q
  have hfT : Fr T w W8 := by
    refine ((hf4.mono (T := T) (fun i hi => .inl hi)).trans (((hD.trans h5).trans h6).fr T) (fun _ _ h => h)).trans (T := T) ?_ (fun _ _ h => h) |>.trans (hf8.mono (T := T) (fun i hi => .inr (.inl hi))) (fun _ _ h => h)
    refine (Fr.refl T W6).trans hf7 (fun i hi e => ?_)
    rcases hg7 with h1 | h1
    · exact .inr (.inr (by rw [e]; exact h1))
    · omega
  have hno2 : hasO (okey (outE E)) ((p.R E.tm).map outE) = false := by
    rw [h.out, show E.tm = (okey (outE E)).1 from rfl, hasO_gr]; exact hno
  have hlen := ins_len (L := p.R E.tm) (E := lentE E u) hsp.le
  have hmapo : ((p.R E.tm).take k ++ lentE E u :: (p.R E.tm).drop k).map outE = gr E.tm (insO (outE E) s) := by
    have h1 := spot_ins (by rw [h.out]; exact gr_str h.str) hsp hno2
    rw [gr_ins h.str, if_pos (show otm (outE E) = E.tm from rfl), ← h.out E.tm, ← h1]
    simp only [List.map_append, List.map_cons]
    rfl
  have hTP : ∀ q, P q → ¬ T q := fun q hq hc => by
    rcases hc with e | e | e
    · exact h.sp q (h.sH q e) hq
    · exact h.sp q (by rw [e]; exact h.sM) hq
    · exact h.sp q (h.sR _ q e) hq
  have hnew : EdgAt W8 (lentE E u) := by
    have h1 : OwnE W6 WD.heap.size (lentE E u) := hown.g h6
    have h2 := h1.fr hf7 (fun q hq => hbg q hq)
    have h3 := h2.fr hf8 (fun q hq e => by have := hbl q hq; omega)
    exact h3.at
  obtain ⟨S', hb, hs1, hs2, -⟩ := h.upd hfT E.tm (fun q _ hc => hc) SH' v' hs' L0 (kset p.ks E.tm) (.slice (some ⟨g, off, none⟩) ((p.R E.tm).length + 1) c) ((p.R E.tm).take k ++ lentE E u :: (p.R E.tm).drop k) (P' := fun q => P q ∨ u.ownBlock = some q)
    ((((hat4.g hD).g h5).g h6).fr hf7 (fun q hq e => by
      rcases hg7 with h1 | h1
      · rcases hgr q hq with h2 | h2
        · exact h.hR _ g h1 (by rw [← e]; exact h2)
        · have := hrl g h1; omega
      · have := hat4.lt q hq; omega) |>.fr hf8 (fun q hq e => by
      rcases hgr q hq with h2 | h2
      · exact h.hM (by rw [← e]; exact h2)
      · omega))
    hgr hk4 hm8 (.inr ⟨g, off, c, by rw [hlen], by rw [hlen]; exact hra.fr hf8 hgM⟩) hmapo (fun q hq => by rw [gr_ins h.str, if_neg (fun e : otm (outE E) = q => hq (by rw [← e]; rfl))]) (insO_str h.str hno)
    (fun q => by
      rw [kset_mem, h.keys]
      constructor
      · rintro (e | ⟨o, ho, he⟩)
        · exact ⟨outE E, insO_mem.2 (.inl rfl), by rw [e]; rfl⟩
        · exact ⟨o, insO_mem.2 (.inr ho), he⟩
      · rintro ⟨o, ho, he⟩
        rcases insO_mem.1 ho with e | e
        · exact .inl (by rw [← he, e]; rfl)
        · exact .inr ⟨o, e, he⟩)
    (fun o ho => by
      rcases insO_mem.1 ho with e | e
      · rw [e]; exact hrE
      · exact h.rng o e)
    (fun F hF => by
      have hcase : F ∈ p.R E.tm ∨ F = lentE E u := by
        rcases List.mem_append.1 hF with h1 | h1
        · exact .inl (List.mem_of_mem_take h1)
        · rcases List.mem_cons.1 h1 with h2 | h2
          · exact .inr h2
          · exact .inl (List.mem_of_mem_drop h2)
      rcases hcase with h1 | h1
      · exact ⟨(h.props _ F h1).1.fr hfT (fun q hq => hTP q ((h.props _ F h1).2 q hq)), fun q hq => .inl ((h.props _ F h1).2 q hq)⟩
      · rw [h1]; exact ⟨hnew, fun q hq => .inr hq⟩)
    (fun q hq => .inl hq) (fun q hq => hq.imp id (fun e => by have := hbl q e; omega)) (fun q hq => by
      rcases hq with e | e
      · have := h.lt q (.inr e); omega
      · have := hbl q e; omega)
    (fun q hq => by
      have hq' : g = q := by cases hq; rfl
      subst hq'
      refine ⟨hg7.imp id (fun e => by omega), fun hc => ?_, fun hc => ?_⟩
      · rcases hg7 with h1 | h1
        · rcases hgr _ hc with h2 | h2
          · exact h.hR _ _ h1 h2
          · have := hrl _ h1; omega
        · have := hat4.lt _ hc; omega
      · rcases hc with e | e
        · rcases hg7 with h1 | h1
          · exact h.sp _ (h.sR _ _ h1) e
          · have := h.lt _ (.inr e); omega
        · exact hbg _ e rfl)
    (fun q hq hc => by
      rcases hc with e | e
      · rcases hgr q hq with h2 | h2
        · exact h.sp q (h.sH q h2) e
        · have := h.lt q (.inr e); omega
      · have h1 := hbl q e
        have h2 := hat4.lt q hq
        omega)
  refine ⟨S', _, _, hb, hs1, fun q hq => hq.imp id (fun e => by have := hbl q e; omega), hs2, hfT.mono (fun q hq => ?_)⟩
  rcases hq with e | e | e
  · exact h.sH q e
  · rw [e]; exact h.sM
  · exact h.sR _ q e
end Go.Proofs.Ythhmmjpgefinmaa
