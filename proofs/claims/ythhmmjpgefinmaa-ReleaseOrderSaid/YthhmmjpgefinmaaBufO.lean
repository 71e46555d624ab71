/- the buffer: All -/
import Derived.Test.YthhmmjpgefinmaaBufA
set_option maxRecDepth 10000
namespace Go.Proofs.Ythhmmjpgefinmaa
set_option linter.unusedVariables false
set_option linter.unusedSimpArgs false
open Go.RowKit Go.Shelf
attribute [local go_sem] Oper.semAt_some

/-- what All has told so far -/
structure AIn (S P : Nat → Prop) (w : World) (B : Nat) (s : List Out) (p : Bp) (acc : List Out) (vo : Value) (L : List Edg) (Fo : Nat → Prop) (W : World) : Prop where
  bx : FBox w.heap.size 42 (.pointer (some ⟨B, 0, none⟩)) Fo W
  ob : FBox (w.heap.size + 1) 40 vo Fo W
  row : FRow (w.heap.size + 2) 51 5 vo L.length (ecs L) Fo W
  out : L.map outE = acc
  own : ∀ E ∈ L, OwnE W (w.heap.size + 2) E ∧ ∀ g, E.v.ownBlock = some g → ¬ Fo g
  buf : BufIn S P W B s p
  nfo : ∀ k, S k ∨ P k → ¬ Fo k
  sl : ∀ k, S k ∨ P k → k < w.heap.size
  fg : FG w Fo W
def AllI (S P : Nat → Prop) (w : World) (B : Nat) (s : List Out) (p : Bp) (acc : List Out) (Fo : Nat → Prop) (W : World) : Prop := ∃ vo L, AIn S P w B s p acc vo L Fo W
theorem AllI.stable (S P : Nat → Prop) (w : World) (B : Nat) (s : List Out) (p : Bp) (acc : List Out) : Stable (AllI S P w B s p acc) := by
  intro Fo Fo' W W' ⟨vo, L, h⟩ a b c
  exact ⟨vo, L, Stable.box _ _ _ Fo Fo' W W' h.bx a b c, Stable.box _ _ _ Fo Fo' W W' h.ob a b c, Stable.row _ _ _ _ _ _ Fo Fo' W W' h.row a b c, h.out, fun E hE => ⟨(h.own E hE).1.fr c (fun g hg hf => (h.own E hE).2 g hg hf), fun g hg hf => (b g hf).elim ((h.own E hE).2 g hg) (fun e => by have := ((h.own E hE).1.own.lt g hg).2; omega)⟩, h.buf.fr c (fun k hk hf => h.nfo k hk hf), fun k hk hf => (b k hf).elim (h.nfo k hk) (fun e => by have := h.buf.lt k hk; omega), h.sl, Stable.fg w Fo Fo' W W' h.fg a b c⟩
theorem AIn.push {S P Fo : Nat → Prop} {w wr Wc wa : World} {B : Nat} {s acc : List Out} {p : Bp} {vo v' : Value} {L : List Edg} {E' : Edg} {tmp : Obj} (h : AIn S P w B s p acc vo L Fo wr) (hfl : ∀ k, Fo k → k < wr.heap.size) (hz : w.heap.size + 2 ≤ wr.heap.size) (hg : G wr Wc) (hown : OwnE Wc wr.heap.size E')
    (hr : wa.ownsRow (w.heap.size + 2) 51 5 v' (L.length + 1) (ecs L ++ ecs [E'])) (hgrow : (Wc.alloc tmp).grownBy wa vo.ownBlock) (hat : ∀ g, v'.ownBlock = some g → vo.ownBlock = some g ∨ (Wc.alloc tmp).heap.size ≤ g) :
    AIn S P w B s p (acc ++ [outE E']) v' (L ++ [E']) Fo (wa.setCell ⟨w.heap.size + 1, 0, none⟩ v') ∧ Fr (fun k => ¬ (Fo k ∨ False)) wr (wa.setCell ⟨w.heap.size + 1, 0, none⟩ v') := by
  have hrl := h.row.2.lt
  have zc := hg.size
  have hfa : Fr (fun q => vo.ownBlock = some q) wr wa := (((hg.alloc tmp).fr _).trans (grownBy_fr hgrow) (fun _ _ x => x))
  have hfa2 : Fr (fun q => vo.ownBlock = some q) Wc wa := ((((G.refl Wc).alloc tmp).fr _).trans (grownBy_fr hgrow) (fun _ _ x => x))
  have za := hfa2.size
  have hvb : ¬ vo.ownBlock = some (w.heap.size + 1) := fun e => by have := (hrl _ e).1; omega
  have hvb0 : ¬ vo.ownBlock = some w.heap.size := fun e => by have := (hrl _ e).1; omega
  have hset : Fr (fun q => q = w.heap.size + 1) wa (wa.setCell ⟨w.heap.size + 1, 0, none⟩ v') := (Fr.refl (fun q => q = w.heap.size + 1) wa).setCell (p := ⟨w.heap.size + 1, 0, none⟩) (.inl rfl) _
  have hfF : Fr (fun k => ¬ (Fo k ∨ False)) wr (wa.setCell ⟨w.heap.size + 1, 0, none⟩ v') :=
    (hfa.mono (fun q e hq => hq.elim (h.row.1 q e) (fun x => x))).trans (T := fun k => ¬ (Fo k ∨ False)) (hset.mono (fun q e hq => hq.elim (fun x => h.ob.1 (by rw [← e]; exact x)) (fun x => x))) (fun _ _ x => x)
  have hU : ∀ E, OwnE wr (w.heap.size + 2) E → (∀ g, E.v.ownBlock = some g → ¬ vo.ownBlock = some g ∧ ¬ g = w.heap.size + 1) := fun E hE g hg2 => ⟨fun e => apart_ep hE h.row.2 e g hg2 rfl, fun e => by have := (hE.own.lt g hg2).1; omega⟩
  refine ⟨⟨FBox.other _ ⟨h.bx.1, hfa.boxed h.bx.2 hvb0⟩ (by omega), FBox.set _ ⟨h.ob.1, hfa.boxed h.ob.2 hvb⟩, ⟨fun g hg2 hf => ?_, ?_⟩, by rw [List.map_append, h.out]; rfl, fun E hE => ?_, (h.buf.fr hfa (fun k hk e => by have h1 := h.sl k hk; have h2 := (hrl _ e).1; omega)).fr hset (fun k hk e => by have h1 := h.sl k hk; have e2 : k = w.heap.size + 1 := e; omega), h.nfo, h.sl, h.fg.1, ?_⟩, hfF⟩
  · rcases hat g hg2 with e | e
    · exact h.row.1 g e hf
    · have h1 := hfl g hf; simp at e; omega
  · rw [List.length_append, ecs_app]
    exact hset.ownsRow hr (fun g hg2 e => by have h1 := (hr.lt g hg2).1; have e2 : g = w.heap.size + 1 := e; omega)
  · rcases List.mem_append.1 hE with e | e
    · have h1 := h.own E e
      have h2 := hU E h1.1
      exact ⟨(h1.1.fr hfa (fun g hg2 => (h2 g hg2).1)).fr hset (fun g hg2 => (h2 g hg2).2), h1.2⟩
    · rw [List.mem_singleton.1 e]
      have hl := hown.own.lt
      have h3 := (hown.fr hfa2 (fun g hg2 e2 => by have h1 := (hl g hg2).1; have h2 := (hrl _ e2).2; omega)).fr hset (fun g hg2 e2 => by have h1 := (hl g hg2).1; have e3 : g = w.heap.size + 1 := e2; omega)
      exact ⟨⟨ownsRow_mono h3.own hz, h3.n, h3.ps, h3.f, h3.t, h3.l⟩, fun g hg2 hf => by have h1 := (hl g hg2).1; have h2 := hfl g hf; omega⟩
  · exact (((h.fg.2.fr (fun q => w.heap.size ≤ q)).trans hfa (fun q _ e => by have := (hrl _ e).1; omega)).trans hset (fun q _ e => by have e2 : q = w.heap.size + 1 := e; show w.heap.size ≤ q; omega)).g (fun _ h => h)
set_option maxHeartbeats 8000000 in
theorem ball_any (S P : Nat → Prop) (B : Nat) (s : List Out) (p : Bp) (w : World) (h : BufIn S P w B s p) (hn : s.length ≤ 100000) (hps : ∀ o ∈ s, o.2.2.2.2.length ≤ 1000000) :
    Calls Try.prog 20 #[.pointer (some ⟨B, 0, none⟩)] w fun e w' => ∃ u L, e = .returned u ∧ w'.ownsRow w.heap.size 51 5 u L.length (ecs L) ∧ L.map outE = s ∧ (∀ E ∈ L, OwnE w' w.heap.size E) ∧ G w w' := by
  have HH := Lib.hid h
  obtain ⟨bc0, bc1⟩ := box2b h
  obtain ⟨i0, hi, hz0, hz1, hz2⟩ := info_parts infoE
  have h0 := boxed_at w [.cells #[.pointer (some ⟨B, 0, none⟩)] 42, .cells #[.slice none 0 0] 40] 0 42 (.pointer (some ⟨B, 0, none⟩)) rfl
  have h1 := boxed_at w [.cells #[.pointer (some ⟨B, 0, none⟩)] 42, .cells #[.slice none 0 0] 40] 1 40 (.slice none 0 0) rfl
  have hg1 : G w ((w.alloc (.cells #[.pointer (some ⟨B, 0, none⟩)] 42)).alloc (.cells #[.slice none 0 0] 40)) := ((G.refl w).alloc _).alloc _
  have bc0 := hg1.cell bc0
  have bc1 := hg1.cell bc1
  have c0 := h0.cell
  have HPS := Lib.hid hps
  clear h hps
  refine calls_of_marks Try.func20 rfl ?_
  simp only [Try.ntmps20, List.size_toArray, List.length_cons, List.length_nil, Nat.reduceAdd, Nat.reduceSub, Array.replicate_succ, Array.replicate_zero, List.push_toArray, List.append_toArray, List.nil_append, List.cons_append]
  go_upto_region 1 with fail
  show Code.wp _ _ _ _ _
  change World.cell? ((w.alloc (.cells #[.pointer (some ⟨B, 0, none⟩)] 42)).alloc (.cells #[.slice none 0 0] 40)) _ = _ at c0
  change Boxed ((w.alloc (.cells #[.pointer (some ⟨B, 0, none⟩)] 42)).alloc (.cells #[.slice none 0 0] 40)) _ _ _ at h0
  change Boxed ((w.alloc (.cells #[.pointer (some ⟨B, 0, none⟩)] 42)).alloc (.cells #[.slice none 0 0] 40)) _ _ _ at h1
  have hzz : ((w.alloc (.cells #[.pointer (some ⟨B, 0, none⟩)] 42)).alloc (.cells #[.slice none 0 0] 40)).heap.size = w.heap.size + 2 := by simp
  simp only [Nat.add_zero] at c0 h0
  try simp only [World.size_alloc]
  generalize ((w.alloc (.cells #[.pointer (some ⟨B, 0, none⟩)] 42)).alloc (.cells #[.slice none 0 0] 40)) = W1 at hg1 bc0 bc1 c0 h0 h1 hzz ⊢
  go_wp2_with fail
  refine (bmade_any bc1).mono ?_
  rintro e w' ⟨rfl, rfl⟩
  go_wp2_with fail
  refine (rising_any p.H W1).mono ?_
  rintro e w3 ⟨rfl, hw3⟩
  have hg3 : G W1 w3 := by rw [hw3]; exact (G.refl _).alloc _
  have hgw3 := hg1.trans hg3
  have k1 : Boxed w3 (w.heap.size + 2) 78 (.pointer (some ⟨p.H, 0, none⟩)) := by rw [hw3, ← hzz]; exact boxed_at W1 [_] 0 _ _ rfl
  have hz3 : w3.heap.size = w.heap.size + 3 := by rw [hw3]; simp [hzz]
  have hb0 := hg3.boxed h0
  have hb1 := hg3.boxed h1
  have hseq := rising_seq p.SH p.H p.v p.hs p.L (w.heap.size + 2) w3 (HH.out.g hgw3).hat (keys_all HH.out) k1 (by have := HH.out.hlen; omega)
  have hSl : ∀ k, S k ∨ P k → k < w.heap.size := HH.out.lt
  have HSL := Lib.hid hSl
  have HB3 := Lib.hid (HH.out.g hgw3)
  rw [hzz]
  clear hw3 hg3 k1 h0 h1 c0 bc0 bc1 hSl hg1
  go_wp2_with fail
  refine range_wp2 (gf := 53) (lb := #[.pointer (some ⟨w.heap.size + 2, 0, none⟩)]) (fun x W => W) (fun x W => G.refl W) rfl (enters_of Try.func53 (by kernel_rfl) rfl)
    hseq (G.refl _) (fun k hk => by omega) (fun k hk => hk.elim) (fun _ => rfl)
    (fun pre Fo W => AllI S P w B s p (pre.flatMap (fun t => gr t s)) Fo W)
    (fun c pre Fo W => False)
    (fun pre => AllI.stable _ _ _ _ _ _ _)
    (fun c pre => Stable.pure _)
    ⟨.slice none 0 0, [], ⟨by show ¬ (w.heap.size = w.heap.size + 2); omega, hb0⟩, ⟨by show ¬ (w.heap.size + 1 = w.heap.size + 2); omega, hb1⟩, ⟨fun _ h => (by cases h), World.ownsRow_nil _ _ _ _⟩, rfl, fun E hE => (by cases hE), HB3.out, fun k hk e => by have := HSL.out k hk; have e2 : k = w.heap.size + 2 := e; omega, HSL.out, ⟨fun k hk => by have e2 : k = w.heap.size + 2 := hk; omega, hgw3⟩⟩
    ?a1 ?assign ?body ?done ?stop
  case assign =>
    intro l x W K hK
    simp only [encT]
    gi_wp2
    exact hK
  case body =>
    rintro l pre x Fo W0 W hW0 hW3 hfrW hfo hfl hsz2 ⟨vo, L, hA⟩ hpre
    have hxm : x ∈ p.L.map (·.1) := hpre.subset (by simp)
    have hxr : InR x := HH.out.map.keys x ((HH.out.hk.2.2.2 x).1 hxm)
    obtain ⟨rp, rc, hrow⟩ := (HH.out.rows x).shape
    have HLK := Lib.hid (hA.buf.map.look hxr).1
    rw [hrow] at HLK
    obtain ⟨n, hnn⟩ : ∃ n, n = (p.R x).length := ⟨_, rfl⟩
    rw [← hnn] at HLK hrow
    have HNN := Lib.hid hnn
    have HROW := Lib.hid hrow
    have hnl : n ≤ 100000 := by rw [hnn]; have := HH.out.lenle x; omega
    have HA0 := Lib.hid hA
    have c0 := hA.bx.2.cell
    obtain ⟨bc0, bc1⟩ := box2b hA.buf
    have hlk := HLK.out
    have HACC : Hid (∀ k, k < n → pre.flatMap (fun t => gr t s) ++ (gr x s).take (k + 1) = pre.flatMap (fun t => gr t s) ++ (gr x s).take k ++ [outE (eat (p.R x) k)]) := Lib.hid (fun k hk => by
      have h1 : (gr x s)[k]? = some (outE (eat (p.R x) k)) := by rw [← HH.out.out x, List.getElem?_map, eat_get (by omega)]; rfl
      rw [List.take_add_one, h1, List.append_assoc]; rfl)
    have HLEN : Hid (∀ k, (pre.flatMap (fun t => gr t s) ++ (gr x s).take k).length ≤ s.length) := Lib.hid (fun k => by
      have h1 := cat_gr (p.L.map (·.1)) s HH.out.str HH.out.hk.strict (fun o ho => (HH.out.hk.2.2.2 _).2 ((HH.out.keys _).2 ⟨o, ho, rfl⟩))
      obtain ⟨r, hr⟩ := hpre
      rw [← hr, List.flatMap_append, List.flatMap_append] at h1
      have h2 := congrArg List.length h1
      simp only [List.length_append, List.flatMap_cons, List.flatMap_nil, List.append_nil, List.length_take] at h2 ⊢
      omega)
    have HFIN : Hid (pre.flatMap (fun t => gr t s) ++ (gr x s).take n = (pre ++ [x]).flatMap (fun t => gr t s)) := Lib.hid (by
      rw [List.take_of_length_le (by rw [hnn, HH.out.len x]; exact Nat.le_refl _), List.flatMap_append]; simp)
    clear hA hrow hnn hpre hfrW hxm bc0 hb0 hb1 hseq
    gi_wp2
    gi_loopw [22] (fun kv wr => ∃ k : Nat, kv = .int .i64 k ∧ k ≤ n ∧ W.heap.size ≤ wr.heap.size ∧ Hid (Fr (fun k => ¬ (Fo k ∨ False)) W wr ∧ ∃ vo L, AIn S P w B s p (pre.flatMap (fun t => gr t s) ++ (gr x s).take k) vo L Fo wr)) (fun kv _ => n - (intOf kv).toNat)
    case atStart => exact ⟨0, rfl, by omega, Nat.le_refl _, Lib.hid ⟨Fr.refl _ _, vo, L, by simpa using HA0.out⟩⟩
    case round =>
      clear c0 bc1 hlk HLK
      obtain ⟨k, rfl, hk, hszr, HX⟩ := hrel
      by_cases hlt : k < n
      · have hkI : (k : Int) < (n : Int) := by omega
        obtain ⟨hfW, vo, L, hA⟩ := HX.out
        obtain ⟨vp, vc, hvo⟩ := ownsRow_shape hA.row.2
        subst hvo
        have hrd := (hA.buf.rows x).rdr
        rw [HROW.out, ← HNN.out] at hrd
        obtain ⟨bb, oo, rfl, z0, z1, z2, z3, z4⟩ := cellsAt5 hrd HNN.out.symm hlt
        have hmem : eat (p.R x) k ∈ p.R x := List.mem_of_getElem? (eat_get (by have := HNN.out; omega))
        have hEA := (hA.buf.props x _ hmem).1
        obtain ⟨pe, ne, ce, hev1⟩ := hEA.isE
        have hnp : (eat (p.R x) k).ps.length ≤ 1000000 := by
          have h1 : outE (eat (p.R x) k) ∈ gr x s := by rw [← HH.out.out x]; exact List.mem_map.2 ⟨_, hmem, rfl⟩
          exact HPS.out _ (gr_mem.1 h1).1
        have HAC := Lib.hid (HACC.out k hlt)
        obtain ⟨E1, hE1⟩ : ∃ E1, E1 = eat (p.R x) k := ⟨_, rfl⟩
        rw [← hE1] at z0 z1 z2 z3 z4 hEA hev1 hnp HAC
        rw [hev1] at z4
        have hLl : L.length ≤ 200000 := by
          have h1 := congrArg List.length hA.out
          rw [List.length_map, List.length_append] at h1
          have h2 := HLEN.out k
          rw [List.length_append] at h2
          omega
        have hg5 : G wr (wr.alloc (.cells #[.string E1.f, .string E1.t, .string E1.l, .int .i64 E1.tm, .slice pe ne ce] 51)) := (G.refl wr).alloc _
        have k0 := cell_alloc_at wr [.string E1.f, .string E1.t, .string E1.l, .int .i64 E1.tm, .slice pe ne ce] 51 (0, 0) 0 _ rfl
        have k1 := cell_alloc_at wr [.string E1.f, .string E1.t, .string E1.l, .int .i64 E1.tm, .slice pe ne ce] 51 (0, 0) 1 _ rfl
        have k2 := cell_alloc_at wr [.string E1.f, .string E1.t, .string E1.l, .int .i64 E1.tm, .slice pe ne ce] 51 (0, 0) 2 _ rfl
        have k3 := cell_alloc_at wr [.string E1.f, .string E1.t, .string E1.l, .int .i64 E1.tm, .slice pe ne ce] 51 (0, 0) 3 _ rfl
        have k4 := cell_alloc_at wr [.string E1.f, .string E1.t, .string E1.l, .int .i64 E1.tm, .slice pe ne ce] 51 (0, 0) 4 _ rfl
        simp only [Nat.zero_add] at k0 k1 k2 k3 k4
        have hrl := hA.row.2.lt
        have hneO : ¬ (Value.slice vp L.length vc).ownBlock = some (w.heap.size + 1) := fun e => by have := (hrl _ e).1; omega
        have hneE : ¬ (Value.slice vp L.length vc).ownBlock = some wr.heap.size := fun e => by have := (hrl _ e).2; omega
        have co := (hg5.boxed hA.ob.2).cell
        have HCO : Hid (∀ X, G wr X → Calls Try.prog 37 #[ev E1] X fun e w' => ∃ u, e = .returned (ev (lentE E1 u)) ∧ OwnE w' X.heap.size (lentE E1 u) ∧ G X w') := Lib.hid (fun X hX => copied_any E1 X (hEA.g hX) hnp)
        have hEv1 : ev E1 = .agg #[.string E1.f, .string E1.t, .string E1.l, .int .i64 E1.tm, .slice pe ne ce] := by unfold ev; rw [hev1]
        rw [hEv1] at HCO
        have HA := Lib.hid hA
        have HFW := Lib.hid hfW
        have HRL := Lib.hid hrl
        generalize hLn : L.length = Ln at HA hneO hneE co hLl HRL
        have HLN := Lib.hid hLn
        clear hA hfW hrl hrd hmem hEA hnp hE1 hEv1 HX hev1 hLn
        gi_wp2
        generalize hW5 : (wr.alloc (.cells #[.string E1.f, .string E1.t, .string E1.l, .int .i64 E1.tm, .slice pe ne ce] 51)) = W5 at hg5 k0 k1 k2 k3 k4 co ⊢
        clear hW5
        clear z0 z1 z2 z3 z4
        refine region_hl_round (fun w' => Fr (fun q => (Value.slice vp Ln vc).ownBlock = some q) W5 w') 5 6 (by kernel_rfl) rfl (by kernel_rfl) ?_
        simp only [List.replicate_succ, List.replicate_zero]
        obtain ⟨WD, hWD⟩ : ∃ WD : World, WD = W5.drew := ⟨_, rfl⟩
        have hsD0 : G W5 WD := by rw [hWD]; exact (G.refl W5).drew
        have hsD : Fr (fun q => (Value.slice vp Ln vc).ownBlock = some q) W5 WD := hsD0.fr _
        rw [← hWD]
        clear hWD
        refine hl_take_np 0 (by kernel_rfl) (by kernel_rfl) rfl (by kernel_rfl) hsD (v := ?_) ?_ ?_
        rotate_left
        · (rintro x hx; have kz1 := Fr.cell hx hneO co; have e0 := Fr.cell hx hneE k0; have e1 := Fr.cell hx hneE k1; have e2 := Fr.cell hx hneE k2; have e3 := Fr.cell hx hneE k3; have e4 := Fr.cell hx hneE k4; clear hx; go_simp; try rfl)
        simp only [Act.put, List.setIfInBounds_toArray, List.set_cons_zero, List.set_cons_succ]
        refine hl_take_np 1 (by kernel_rfl) (by kernel_rfl) rfl (by kernel_rfl) hsD (v := ?_) ?_ ?_
        rotate_left
        · (rintro x hx; have kz1 := Fr.cell hx hneO co; have e0 := Fr.cell hx hneE k0; have e1 := Fr.cell hx hneE k1; have e2 := Fr.cell hx hneE k2; have e3 := Fr.cell hx hneE k3; have e4 := Fr.cell hx hneE k4; clear hx; go_simp; try rfl)
        simp only [Act.put, List.setIfInBounds_toArray, List.set_cons_zero, List.set_cons_succ]
        refine hl_stepW 2 (by kernel_rfl) rfl (by kernel_rfl) ?_
        intro K hK
        go_simp
        refine (HCO.out WD (hg5.trans hsD0)).mono ?_
        rintro e W6 ⟨u, rfl, hown, hga⟩
        have hg6 : G W5 W6 := hsD0.trans hga
        refine hK _ _ (fun _ => hg6.fr _) ?_
        clear hK K
        simp only [Act.put, List.setIfInBounds_toArray, List.set_cons_zero, List.set_cons_succ]
        obtain ⟨up, uc, hu⟩ := ownsRow_shape hown.own
        have hev2 : ev (lentE E1 u) = .agg #[.string E1.f, .string E1.t, .string E1.l, .int .i64 E1.tm, .slice up (lentE E1 u).ps.length uc] := by
          have h1 : (lentE E1 u).v = .slice up (lentE E1 u).ps.length uc := hu
          unfold ev; rw [h1]; rfl
        have hec : ecs [lentE E1 u] = [.string E1.f, .string E1.t, .string E1.l, .int .i64 E1.tm, .slice up (lentE E1 u).ps.length uc] := by
          have h1 : (lentE E1 u).v = .slice up (lentE E1 u).ps.length uc := hu
          simp only [ecs]; rw [h1]; rfl
        rw [hev2]
        have HEC := Lib.hid hec
        have HOW := Lib.hid hown
        have hzz5 := hg5.size
        have hzD := hsD0.size
        generalize (lentE E1 u).ps.length = un at HEC ⊢
        have hrow6 := (hg5.trans hg6).ownsRow HA.out.row.2
        rw [HLN.out] at hrow6
        clear hown hu hev2 hec hga k0 k1 k2 k3 k4 co
        refine hl_step 3 (by kernel_rfl) rfl ?_
        go_wp2_with fail
        show _ ∧ _
        refine ⟨(by first | exact (hg6.alloc _).fr _ | exact fun _ => (hg6.alloc _).fr _), ?_⟩
        refine hl_step 4 (by kernel_rfl) rfl ?_
        refine wpList_append2 _ rfl _ _ 40 rfl (w.heap.size + 2) 51 i0 (.agg #[.string ⟨#[]⟩, .string ⟨#[]⟩, .string ⟨#[]⟩, .int .i64 0, .slice none 0 0]) 5 80 Try.underlying40 hi hz0 hz1 hz2 rfl (by decide) (.slice vp Ln vc) Ln (ecs L) rfl (((G.refl W6).alloc _).ownsRow hrow6) ⟨W6.heap.size, 0, none⟩ 1 1 [.string E1.f, .string E1.t, .string E1.l, .int .i64 E1.tm, .slice up un uc] rfl rfl (fun j v hj => by rw [Addr.add_lit]; exact cell_alloc_at W6 [.string E1.f, .string E1.t, .string E1.l, .int .i64 E1.tm, .slice up un uc] 51 (0, 0) j v hj) (by simp [Value.oneCell']) (by unfold maxLen; omega) (by omega) (by have := hg6.size; simp; omega) (by
          intro v' wa hown hgrow hnil hat
          have hfa : Fr (fun q => (Value.slice vp Ln vc).ownBlock = some q) W5 wa := (((hg6.alloc _).fr _).trans (grownBy_fr hgrow) (fun _ _ x => x))
          have hxb := hfa.boxed (hg5.boxed HA.out.ob.2) hneO
          have cb := hxb.cell
          have fb := hxb.frozen
          have HIN : Hid (AIn S P w B s p (pre.flatMap (fun t => gr t s) ++ (gr x s).take (k + 1)) v' (L ++ [lentE E1 u]) Fo (wa.setCell ⟨w.heap.size + 1, 0, none⟩ v') ∧ Fr (fun k => ¬ (Fo k ∨ False)) W (wa.setCell ⟨w.heap.size + 1, 0, none⟩ v')) := Lib.hid (by
            have h1 : OwnE W6 wr.heap.size (lentE E1 u) := ⟨ownsRow_mono HOW.out.own (by omega), HOW.out.n, HOW.out.ps, HOW.out.f, HOW.out.t, HOW.out.l⟩
            have h2 := AIn.push HA.out (fun k hk => by have := hfl k hk; omega) (by omega) (hg5.trans hg6) h1 (by rw [HEC.out, HLN.out]; exact hown) hgrow hat
            rw [HAC.out]
            exact ⟨h2.1, HFW.out.trans h2.2 (fun _ _ h => h)⟩)
          obtain ⟨op, oc, rfl⟩ := ownsRow_shape hown
          have hszw : W.heap.size ≤ wa.heap.size := by have h1 := hfa.size; omega
          clear hown hgrow hnil hat hxb
          show _ ∧ _
          refine ⟨(by first | exact hfa | exact fun _ => hfa), ?_⟩
          refine hl_step 5 (by kernel_rfl) rfl ?_
          go_wp2_with fail
          show _ ∧ _
          refine ⟨(by first | exact fun h => absurd rfl h | trivial), ?_⟩
          refine hl_done (by kernel_rfl) ?_ _
          refine NoPanic.normal ?_
          gi_wp2
          go_roundw
          case rel => exact ⟨k + 1, by go_num, by omega, by simpa using hszw, Lib.hid ⟨HIN.out.2, _, _, HIN.out.1⟩⟩
          case measure => simp [intOf]; omega)
      · obtain rfl : k = n := by omega
        gi_wp2
        exact ⟨HX.out.1, by show AllI S P w B s p ((pre ++ [x]).flatMap (fun t => gr t s)) Fo wr; rw [← HFIN.out]; exact HX.out.2⟩
  case done =>
    rintro D xs It Fo W W3 hD hDl hIF hFD hIt hFo hdone hfr ⟨vo, L, hA⟩ hK
    have hacc : xs.flatMap (fun t => gr t s) = s := by
      rw [hdone]
      exact cat_gr (p.L.map (·.1)) s HH.out.str HH.out.hk.strict (fun o ho => (HH.out.hk.2.2.2 _).2 ((HH.out.keys _).2 ⟨o, ho, rfl⟩))
    obtain ⟨lp, lc, hvl⟩ := ownsRow_shape hA.row.2
    subst hvl
    have hx1 := hA.ob.2
    have hc0 := hx1.cell
    have hf0 := hx1.frozen
    have HA := Lib.hid hA
    have HAC := Lib.hid hacc
    have HK := Lib.hid hK
    clear hacc hA hK hseq hfr hdone hb0 hb1
    obtain ⟨Ln, hLn⟩ : ∃ n, n = L.length := ⟨_, rfl⟩
    rw [← hLn] at hx1 hc0 HA
    have HLN := Lib.hid hLn
    clear hLn
    go_wp2_with fail
    have x1 := hx1.set (.slice lp Ln lc)
    have hst : Fr (fun k => k = w.heap.size + 1) W (W.setCell ⟨w.heap.size + 1, 0, none⟩ (.slice lp Ln lc)) := (Fr.refl (fun k => k = w.heap.size + 1) W).setCell (p := ⟨w.heap.size + 1, 0, none⟩) (.inl rfl) _
    have k2 := (hst.block D hDl (by omega)).trans HK.out
    have hg5 : G w (W.setCell ⟨w.heap.size + 1, 0, none⟩ (.slice lp Ln lc)) := HA.out.fg.2.setCell (by simp) _
    have hr5 := hst.ownsRow HA.out.row.2 (fun g hg e => by have := (HA.out.row.2.lt g hg).1; have e2 : g = w.heap.size + 1 := e; omega)
    have ho5 : ∀ E ∈ L, OwnE (W.setCell ⟨w.heap.size + 1, 0, none⟩ (.slice lp Ln lc)) (w.heap.size + 2) E := fun E hE => (HA.out.own E hE).1.fr hst (fun g hg e => by have := ((HA.out.own E hE).1.own.lt g hg).1; have e2 : g = w.heap.size + 1 := e; omega)
    generalize (W.setCell ⟨w.heap.size + 1, 0, none⟩ (.slice lp Ln lc)) = W5 at x1 k2 hg5 hr5 ho5 ⊢
    have b1 := boxed_putObj (o := .deferred none) x1 (show w.heap.size + 1 ≠ D by omega)
    have hr6 := (putObj_fr W5 D (.deferred none)).ownsRow hr5 (fun g hg e => HA.out.row.1 g hg (by rw [e]; exact hFD))
    have ho6 : ∀ E ∈ L, OwnE (W5.putObj D (.deferred none)) w.heap.size E := fun E hE => by
      have h1 := (ho5 E hE).fr (putObj_fr W5 D (.deferred none)) (fun g hg e => (HA.out.own E hE).2 g hg (by rw [e]; exact hFD))
      exact ⟨ownsRow_mono h1.own (by omega), h1.n, h1.ps, h1.f, h1.t, h1.l⟩
    refine leave_mark (D := D) k2 (leave_nil (v := .slice lp Ln lc) (by simp [results, Try.results20, go_sem, b1.cell]) ⟨_, L, rfl, ownsRow_mono hr6 (by omega), by rw [← HAC.out]; exact HA.out.out, ho6, hg5.putObj (by omega) _⟩)
  case stop =>
    intro D c pre It Fo W W3 hD hDl hIF hFD hIt hFo hpart hfr hff
    exact hff.elim
end Go.Proofs.Ythhmmjpgefinmaa
