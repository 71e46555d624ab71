/- laid together: BufE BufW -/
import Derived.Test.YtahdodijpmkddaaBufH
import Derived.Test.YtahdodijpmkddaaBufK
import Derived.Test.YtahdodijpmkddaaBufO
set_option maxRecDepth 10000
namespace Go.Proofs.Ytahdodijpmkddaa
set_option linter.unusedVariables false
set_option linter.unusedSimpArgs false
open Go.RowKit Go.Shelf
attribute [local go_sem] Oper.semAt_some

theorem tw_step {key : Int} : ∀ {s : List Out} {k : Nat} {o : Out}, k ≤ (tw key s).length → s[k]? = some o → (otm o ≤ key ↔ k < (tw key s).length)
  | [], k, o, _, h => by cases h
  | a :: s, 0, o, _, h => by
    cases h
    unfold tw
    rw [List.takeWhile_cons]
    by_cases hc : otm a ≤ key
    · simp [hc]
    · simp [hc]
  | a :: s, k + 1, o, hk, h => by
    unfold tw at hk ⊢
    rw [List.takeWhile_cons] at hk ⊢
    by_cases hc : otm a ≤ key
    · simp only [hc, decide_true, if_true, List.length_cons] at hk ⊢
      have ih := tw_step (s := s) (k := k) (o := o) (key := key) (by unfold tw; omega) (by simpa using h)
      unfold tw at ih
      rw [ih]; omega
    · simp [hc] at hk
theorem tw_len (key : Int) (s : List Out) : (tw key s).length ≤ s.length := by unfold tw; exact (List.takeWhile_sublist _).length_le
theorem tw_take (key : Int) (s : List Out) : s.take (tw key s).length = tw key s := by
  unfold tw
  induction s with
  | nil => rfl
  | cons a s ih =>
    rw [List.takeWhile_cons]
    split
    · simp [ih]
    · simp
/-- so many of those up to a time -/
def upN (key : Int) (m : Nat) (s : List Out) : Nat := ((tw key s).take m).length
theorem upN_take (key : Int) (m : Nat) (s : List Out) : s.take (upN key m s) = (tw key s).take m := by
  unfold upN
  rw [List.length_take]
  have h := tw_take key s
  rw [← h, List.take_take, List.length_take]
  congr 1
  have := tw_len key s
  omega
theorem osub {s : List Out} (h : OStr s) (n : Nat) : OStr (s.drop n) := List.Pairwise.sublist (List.drop_sublist _ _) h
/-- what the document's UpTo shows -/
def RUpOut (T : Nat → Prop) (R : Nat) (s : List Out) (key : Int) (m : Nat) (w : World) (e : Ending) (w' : World) : Prop :=
  ∃ u M v' L' T', e = .returned u ∧ RdrE w' u M ∧ M.map outE = (tw key s).take m ∧ RBuf T' w' R (s.drop (upN key m s)) v' L' ∧ (∀ k, T' k → T k ∨ w.heap.size ≤ k) ∧ Fr (fun q => q = R) w w'
theorem rup_fin {T : Nat → Prop} {w W2 : World} {R : Nat} {s : List Out} {v : Value} {L M : List Edg} {lp : Option Addr} {lc k : Nat} {key : Int} {m : Nat} (h : RBuf T w R s v L) (hown : W2.ownsRow w.heap.size 33 5 (.slice lp M.length lc) M.length (ecs M)) (hmo : M.map outE = s) (hM : ∀ E ∈ M, OwnE W2 w.heap.size E) (hg : G w W2) (hk : k = upN key m s) (hkl : k ≤ M.length) (x : Value) (hx : x = .slice (if lc = k then lp else Option.map (fun x => x.add (k * 5)) lp) (M.length - k) (lc - k)) :
    RUpOut T R s key m w (.returned (.slice lp k lc)) (W2.setCell ⟨R, 0, none⟩ x) := by
  have hRl := h.lt R h.tR
  have hz := hg.size
  have hst : Fr (fun q => q = R) W2 (W2.setCell ⟨R, 0, none⟩ x) := (Fr.refl (fun q => q = R) W2).setCell (p := ⟨R, 0, none⟩) (.inl rfl) _
  have hzf : (W2.setCell ⟨R, 0, none⟩ x).heap.size = W2.heap.size := by simp [World.setCell]
  have hlt := hown.lt
  have hcap : M.length ≤ lc := ownsRow_cap hown
  have hrd := rdr_of_owns (hst.ownsRow hown (fun g hg2 e => by have := (hlt g hg2).1; have e2 : g = R := e; omega))
  have hE : ∀ E ∈ M, EdgAt (W2.setCell ⟨R, 0, none⟩ x) E := fun E hE => ((hM E hE).fr hst (fun g hg2 e => by have := ((hM E hE).own.lt g hg2).1; have e2 : g = R := e; omega)).at
  have hob : ∀ g, x.ownBlock = some g → w.heap.size ≤ g ∧ g < W2.heap.size := fun g hg2 => by
    rw [hx] at hg2
    by_cases hc : lc = k
    · rw [if_pos hc] at hg2
      cases lp with
      | none => cases hg2
      | some a => exact hlt g hg2
    · rw [if_neg hc] at hg2
      cases lp with
      | none => cases hg2
      | some a =>
        refine hlt g ?_
        have : (a.add (k * 5)).block = a.block := by unfold Addr.add; split <;> rfl
        simp only [Option.map_some] at hg2
        rw [← hg2]
        show some a.block = some (a.add (k * 5)).block
        rw [this]
  refine ⟨_, M.take k, x, M.drop k, fun q => T q ∨ (w.heap.size ≤ q ∧ q < W2.heap.size), rfl, ⟨?_, fun E h2 => hE E (List.mem_of_mem_take h2)⟩, ?_, ⟨?_, ?_, fun E h2 => ⟨hE E (List.mem_of_mem_drop h2), fun g hg2 => .inr ((hM E (List.mem_of_mem_drop h2)).own.lt g hg2)⟩, fun q => ?_, osub h.str _, ?_, .inl h.tR, fun g hg2 => .inr (hob g hg2), fun g hg2 e => by have := (hob g hg2).1; omega, fun E h2 g hg2 e => by have := ((hM E (List.mem_of_mem_drop h2)).own.lt g hg2).1; omega, fun q hq => ?_⟩, fun q hq => hq.imp id (fun e => e.1), (hg.fr _).trans hst (fun _ _ h => h)⟩
  · have := rdrE_take hrd hkl
    rw [show (M.take k).length = k by rw [List.length_take]; omega]
    exact this
  · rw [List.map_take, hmo, hk, upN_take]
  · have hb := (hg.block hRl).trans h.box
    have := heap_setCell_at W2 R 0 x _ _ _ hb
    simpa using this
  · have := rdrE_drop hrd hcap hkl
    rw [List.length_drop, hx]
    rw [hx] at this
    exact this
  · rw [List.map_drop, hmo, hk]
  · rw [List.length_drop, List.length_drop, ← hk, ← hmo, List.length_map]
  · rw [hzf]
    rcases hq with e | e
    · have := h.lt q e; omega
    · exact e.2
set_option maxHeartbeats 4000000 in
theorem rupto_any22 (T : Nat → Prop) (R : Nat) (s : List Out) (v : Value) (L : List Edg) (key : Int) (m : Nat) (w : World) (h : RBuf T w R s v L) (hn : s.length ≤ 100000) (hps : ∀ o ∈ s, o.2.2.2.2.length ≤ 1000000) (hm : m ≤ 1000) :
    Calls Try.prog 10 #[.pointer (some ⟨R, 0, none⟩), .int .i64 key, .int .i64 m] w (RUpOut T R s key m w) := by
  have HA := Lib.hid (rall_any T R s v L w h hn hps)
  have HH := Lib.hid h
  have hRl := h.lt R h.tR
  clear h hps
  go_enter Try.func10, Try.ntmps10
  go_wp2_with fail
  refine HA.out.mono ?_
  rintro e W2 ⟨u, M, rfl, hown, hmo, hM, hg2⟩
  obtain ⟨lp, lc, hu⟩ := ownsRow_shape hown
  subst hu
  have hcap : M.length ≤ lc := ownsRow_cap hown
  have hbR := (hg2.block hRl).trans HH.out.box
  have brf : W2.frozen? ⟨R, 0, none⟩ = false := by simp [World.frozen?, hbR]
  have br := rboxc hbR
  have hrd := rdr_of_owns hown
  have hml : M.length = s.length := by rw [← hmo, List.length_map]
  obtain ⟨N, hN⟩ : ∃ N, N = M.length := ⟨_, rfl⟩
  have HFIN := Lib.hid (fun k (hk : k = upN key m s) (hkl : k ≤ N) x hx => rup_fin (key := key) (m := m) HH.out hown hmo hM hg2 hk (by rw [← hN]; exact hkl) x hx)
  rw [← hN] at hcap hrd HFIN ⊢
  have HN := Lib.hid hN
  have HMO := Lib.hid hmo
  have hNl : N ≤ 100000 := by omega
  have HNS := Lib.hid (show N = s.length by omega)
  clear hown hmo hM hN hml hg2 hbR HA
  go_wp2_with fail
  go_loopw [8] (fun kv wr => ∃ k : Nat, kv = .int .i64 k ∧ k ≤ N ∧ k ≤ m ∧ Hid (k ≤ (tw key s).length) ∧ wr = W2) (fun kv _ => N - (intOf kv).toNat)
  case atStart => exact ⟨0, rfl, by omega, by omega, Lib.hid (by omega), rfl⟩
  case round =>
    obtain ⟨k, rfl, hk, hkm, HT, rfl⟩ := hrel
    by_cases hlt : k < N
    · have hkI : (k : Int) < (N : Int) := by omega
      by_cases hlm : k < m
      · have hmI : (k : Int) < (m : Int) := by omega
        obtain ⟨bb, oo, rfl, -, -, -, j3, -⟩ := cellsAt5 hrd HN.out.symm hlt
        have HST := Lib.hid (tw_step (key := key) (s := s) (k := k) (o := outE (eat M k)) HT.out (by rw [← HMO.out, List.getElem?_map, eat_get (by have := HN.out; omega)]; rfl))
        have htm : otm (outE (eat M k)) = (eat M k).tm := rfl
        rw [htm] at HST
        generalize (eat M k).tm = xm at j3 HST
        by_cases hle : xm ≤ key
        · have hle' : decide (xm ≤ key) = true := by simpa using hle
          have HT2 := Lib.hid (show k + 1 ≤ (tw key s).length from HST.out.1 hle)
          go_wp2_with fail
          go_roundw
          case rel => exact ⟨k + 1, by go_num, by omega, by omega, HT2, by first | rfl | trivial⟩
          case measure => simp [intOf]; omega
        · have hle' : decide (xm ≤ key) = false := by simpa using hle
          have hup : k = upN key m s := by
            unfold upN
            rw [List.length_take]
            have h1 := HT.out
            have h2 := mt HST.out.2 hle
            omega
          have HF := Lib.hid (HFIN.out k hup hk)
          have hkc : k ≤ N := hk
          have hneq : ¬ lc = k := by omega
          clear hup
          go_wp2_with fail
          go_ret
          exact HF.out _ (by simp [hneq, addr_add])
      · obtain rfl : k = m := by omega
        have hmI : ¬ (k : Int) < (k : Int) := by omega
        have hup : k = upN key k s := by
          unfold upN
          rw [List.length_take]
          have h1 := HT.out
          omega
        have HF := Lib.hid (HFIN.out k hup hk)
        have hneq : ¬ lc = k := by omega
        obtain ⟨bb, oo, rfl, -⟩ := hrd.one (by omega)
        clear hup
        go_wp2_with fail
        go_ret
        exact HF.out _ (by simp [hneq, addr_add])
    · obtain rfl : k = N := by omega
      have hkI : ¬ (k : Int) < (k : Int) := by omega
      have hup : k = upN key m s := by
        unfold upN
        rw [List.length_take]
        have h1 := HT.out
        have h2 := tw_len key s
        have h3 := HNS.out
        omega
      have HF := Lib.hid (HFIN.out k hup (Nat.le_refl _))
      clear hup
      by_cases hce : lc = k
      · subst hce
        go_wp2_with fail
        go_ret
        exact HF.out _ (by simp)
      · cases lp with
        | none =>
          go_wp2_with fail
          go_ret
          exact HF.out _ (by simp [hce])
        | some a =>
          go_wp2_with fail
          go_ret
          exact HF.out _ (by simp [hce])
end Go.Proofs.Ytahdodijpmkddaa

set_option maxRecDepth 10000
namespace Go.Proofs.Ytahdodijpmkddaa
set_option linter.unusedVariables false
set_option linter.unusedSimpArgs false
open Go.RowKit Go.Shelf
attribute [local go_sem] Oper.semAt_some

theorem edge_any (f t : ByteArray) (m : Int) (w : World) : Calls Try.prog 19 #[.string f, .string t, .int .i64 m] w fun e w' => e = .returned (.agg #[.string f, .string t, .string ⟨#[120]⟩, .int .i64 m, .slice none 0 0]) ∧ G w w' := by
  have hb := alloc_new w (.cells #[.string ⟨#[]⟩, .string ⟨#[]⟩, .string ⟨#[]⟩, .int .i64 0, .slice none 0 0] 33)
  have hg : G w (w.alloc (.cells #[.string ⟨#[]⟩, .string ⟨#[]⟩, .string ⟨#[]⟩, .int .i64 0, .slice none 0 0] 33)) := (G.refl w).alloc _
  go_enter Try.func19, Try.ntmps19
  go_upto_region 1 with fail
  generalize (w.alloc (.cells #[.string ⟨#[]⟩, .string ⟨#[]⟩, .string ⟨#[]⟩, .int .i64 0, .slice none 0 0] 33)) = W1 at hb hg ⊢
  obtain ⟨c0, c1, c2, c3, c4⟩ := cells5 hb
  have y0 : W1.frozen? ⟨w.heap.size, 0, none⟩ = false := by unfold World.frozen?; rw [hb]; simp
  have y1 : W1.frozen? ⟨w.heap.size, 1, none⟩ = false := by unfold World.frozen?; rw [hb]; simp
  have y2 : W1.frozen? ⟨w.heap.size, 2, none⟩ = false := by unfold World.frozen?; rw [hb]; simp
  have y3 : W1.frozen? ⟨w.heap.size, 3, none⟩ = false := by unfold World.frozen?; rw [hb]; simp
  have y5 : W1.frozen? ⟨w.heap.size, 4, none⟩ = false := by unfold World.frozen?; rw [hb]; simp
  obtain ⟨hgF, hr8⟩ := set5 hg (Nat.le_refl _) hb (.string f) (.string t) (.string ⟨#[120]⟩) (.int .i64 m) (.slice none 0 0)
  obtain ⟨q0, q1, q2, q3, q4⟩ := cells5 hr8
  go_wp2_with fail
  refine bodyPost_ret (v := .agg #[.string f, .string t, .string ⟨#[120]⟩, .int .i64 m, .slice none 0 0]) ?_ rfl ⟨rfl, hgF⟩
  simp [results, Try.results19, go_sem, q0, q1, q2, q3, q4]
/-- what the law's upTo shows -/
def LUpOut (S P : Nat → Prop) (B : Nat) (s : List Out) (key : Int) (m : Nat) (w : World) (e : Ending) (w' : World) : Prop :=
  ∃ u L, e = .returned u ∧ w'.ownsRow w.heap.size 33 5 u L.length (ecs L) ∧ L.map outE = (tw key s).take m ∧ (∀ E ∈ L, OwnE w' w.heap.size E) ∧ (∀ g, u.ownBlock = some g → ¬ S g ∧ ¬ P g) ∧ BufNow S P B (s.drop (upN key m s)) w' ∧ Fr S w w'
theorem lupto_no (S P : Nat → Prop) (B : Nat) (s : List Out) (p : Bp) (key m : Int) (w : World) (h : BufIn S P w B s p) (hm : m < 1) : Calls Try.prog 8 #[.pointer (some ⟨B, 0, none⟩), .int .i64 key, .int .i64 m] w (LUpOut S P B s key 0 w) := by
  have hgw : G w ((w.alloc (.cells #[.int .i64 m] 3)).alloc (.cells #[.slice none 0 0] 28)) := ((G.refl w).alloc _).alloc _
  have h0 := boxed_at w [.cells #[.int .i64 m] 3, .cells #[.slice none 0 0] 28] 0 3 (.int .i64 m) rfl
  simp only [Nat.add_zero] at h0
  have c0 := h0.cell
  change World.cell? ((w.alloc (.cells #[.int .i64 m] 3)).alloc (.cells #[.slice none 0 0] 28)) _ = _ at c0
  refine calls_of_marks Try.func8 rfl ?_
  simp only [Try.ntmps8, List.size_toArray, List.length_cons, List.length_nil, Nat.reduceAdd, Nat.reduceSub, Array.replicate_succ, Array.replicate_zero, List.push_toArray, List.append_toArray, List.nil_append, List.cons_append]
  go_wp2_with fail
  refine leave_nil (v := .slice none 0 0) (by simp [results, Try.results8, go_sem]) ⟨_, [], rfl, World.ownsRow_nil _ _ _ _, by simp, fun E hE => (by cases hE), fun g hg => (by cases hg), ⟨p, by
    have : upN key 0 s = 0 := by simp [upN]
    rw [this, List.drop_zero]
    exact h.g hgw⟩, hgw.fr _⟩
/-- the edges that have come -/
structure LupA (P : Nat → Prop) (w : World) (m : Nat) (mv : Value) (pre : List EE) (S : Nat → Prop) (vo : Value) (Fo : Nat → Prop) (W : World) : Prop where
  bx : FBox w.heap.size 3 mv Fo W
  ob : FBox (w.heap.size + 1) 28 vo Fo W
  row : FRow (w.heap.size + 2) 33 5 vo pre.length (ecs (pre.map (·.1))) Fo W
  own : ∀ x ∈ pre, OwnE W (w.heap.size + 2) x.1 ∧ ∀ g, x.1.v.ownBlock = some g → ¬ Fo g
  fs : FS w S Fo W
def LupI (P : Nat → Prop) (w : World) (m : Nat) (mv : Value) (pre : List EE) (S : Nat → Prop) (Fo : Nat → Prop) (W : World) : Prop := ∃ vo, LupA P w m mv pre S vo Fo W
theorem LupI.stable (P : Nat → Prop) (w : World) (m : Nat) (mv : Value) (pre : List EE) (S : Nat → Prop) : Stable (LupI P w m mv pre S) := by
  intro Fo Fo' W W' ⟨vo, h⟩ a b c
  exact ⟨vo, Stable.box _ _ _ Fo Fo' W W' h.bx a b c, Stable.box _ _ _ Fo Fo' W W' h.ob a b c, Stable.row _ _ _ _ _ _ Fo Fo' W W' h.row a b c, fun x hx => ⟨(h.own x hx).1.fr c (fun g hg hf => (h.own x hx).2 g hg hf), fun g hg hf => (b g hf).elim ((h.own x hx).2 g hg) (fun e => by have := ((h.own x hx).1.own.lt g hg).2; omega)⟩, Stable.fs w S Fo Fo' W W' h.fs a b c⟩
theorem LupI.step {P S Fo : Nat → Prop} {w W w1 : World} {m : Nat} {mv vo v' : Value} {pre : List EE} {x : EE} {nb : Nat} (h : LupA P w m mv pre S vo Fo W) (hfl : ∀ k, Fo k → k < W.heap.size) (hz : w.heap.size + 2 ≤ W.heap.size) (hown : OwnE W nb x.1) (hnb : w.heap.size + 2 ≤ nb) (hxf : ∀ g, x.1.v.ownBlock = some g → ¬ Fo g) (hP : ∀ k, P k → k < w.heap.size)
    (hat : ∀ g, v'.ownBlock = some g → vo.ownBlock = some g ∨ W.heap.size + 1 ≤ g) (hfa : Fr (fun q => vo.ownBlock = some q) W w1) (hr : w1.ownsRow (w.heap.size + 2) 33 5 v' (pre.length + 1) (ecs (pre.map (·.1)) ++ ecells x.1)) :
    LupA P w m mv (pre ++ [x]) S v' Fo (w1.setCell ⟨w.heap.size + 1, 0, none⟩ v') ∧ Fr (fun k => ¬ (Fo k ∨ P k)) W (w1.setCell ⟨w.heap.size + 1, 0, none⟩ v') := by
  have hrl := h.row.2.lt
  have hvb : ¬ vo.ownBlock = some (w.heap.size + 1) := fun e => by have := (hrl _ e).1; omega
  have hvb0 : ¬ vo.ownBlock = some w.heap.size := fun e => by have := (hrl _ e).1; omega
  have hset : Fr (fun q => q = w.heap.size + 1) w1 (w1.setCell ⟨w.heap.size + 1, 0, none⟩ v') := (Fr.refl (fun q => q = w.heap.size + 1) w1).setCell (p := ⟨w.heap.size + 1, 0, none⟩) (.inl rfl) _
  have hfF : Fr (fun k => ¬ (Fo k ∨ P k)) W (w1.setCell ⟨w.heap.size + 1, 0, none⟩ v') :=
    (hfa.mono (fun q e hq => hq.elim (h.row.1 q e) (fun x => by have h1 := hP q x; have h2 := (hrl q e).1; omega))).trans (T := fun k => ¬ (Fo k ∨ P k)) (hset.mono (fun q e hq => hq.elim (fun x => h.ob.1 (by rw [← e]; exact x)) (fun x => by have h1 := hP q x; have e2 : q = w.heap.size + 1 := e; omega))) (fun _ _ x => x)
  have hU : ∀ E, OwnE W (w.heap.size + 2) E → (∀ g, E.v.ownBlock = some g → ¬ vo.ownBlock = some g ∧ ¬ g = w.heap.size + 1) := fun E hE g hg2 => ⟨fun e => apart_ep hE h.row.2 e g hg2 rfl, fun e => by have := (hE.own.lt g hg2).1; omega⟩
  have hx2 : OwnE W (w.heap.size + 2) x.1 := ⟨ownsRow_mono hown.own hnb, hown.n, hown.ps, hown.f, hown.t, hown.l⟩
  refine ⟨⟨FBox.other _ ⟨h.bx.1, hfa.boxed h.bx.2 hvb0⟩ (by omega), FBox.set _ ⟨h.ob.1, hfa.boxed h.ob.2 hvb⟩, ⟨fun g hg2 hf => ?_, ?_⟩, fun y hy => ?_, h.fs.1, ?_⟩, hfF⟩
  · rcases hat g hg2 with e | e
    · exact h.row.1 g e hf
    · have h1 := hfl g hf; omega
  · rw [List.length_append, List.map_append, ecs_app]
    exact hset.ownsRow hr (fun g hg2 e => by have h1 := (hr.lt g hg2).1; have e2 : g = w.heap.size + 1 := e; omega)
  · have hy2 : OwnE W (w.heap.size + 2) y.1 ∧ ∀ g, y.1.v.ownBlock = some g → ¬ Fo g := by
      rcases List.mem_append.1 hy with e | e
      · exact h.own y e
      · rw [List.mem_singleton.1 e]; exact ⟨hx2, hxf⟩
    have h2 := hU y.1 hy2.1
    exact ⟨(hy2.1.fr hfa (fun g hg2 => (h2 g hg2).1)).fr hset (fun g hg2 => (h2 g hg2).2), hy2.2⟩
  · exact (h.fs.2.trans hfa (fun q hq e => by have := (hrl _ e).1; omega)).trans hset (fun q hq e => by have e2 : q = w.heap.size + 1 := e; omega)
set_option maxHeartbeats 8000000 in
theorem lupto_any (S P : Nat → Prop) (B : Nat) (s : List Out) (p : Bp) (key : Int) (m : Nat) (w : World) (h : BufIn S P w B s p) (hn : s.length ≤ 100000) (hps : ∀ o ∈ s, o.2.2.2.2.length ≤ 1000000) (hm : 1 ≤ m) :
    Calls Try.prog 8 #[.pointer (some ⟨B, 0, none⟩), .int .i64 key, .int .i64 m] w (LUpOut S P B s key m w) := by
  have HH := Lib.hid h
  have hgw : G w ((w.alloc (.cells #[.int .i64 m] 3)).alloc (.cells #[.slice none 0 0] 28)) := ((G.refl w).alloc _).alloc _
  have h0 := boxed_at w [.cells #[.int .i64 m] 3, .cells #[.slice none 0 0] 28] 0 3 (.int .i64 m) rfl
  have h1 := boxed_at w [.cells #[.int .i64 m] 3, .cells #[.slice none 0 0] 28] 1 28 (.slice none 0 0) rfl
  simp only [Nat.add_zero] at h0
  change Boxed ((w.alloc (.cells #[.int .i64 m] 3)).alloc (.cells #[.slice none 0 0] 28)) _ _ _ at h0
  change Boxed ((w.alloc (.cells #[.int .i64 m] 3)).alloc (.cells #[.slice none 0 0] 28)) _ _ _ at h1
  have hzz : ((w.alloc (.cells #[.int .i64 m] 3)).alloc (.cells #[.slice none 0 0] 28)).heap.size = w.heap.size + 2 := by simp
  obtain ⟨i0, hi, hz0, hz1, hz2⟩ := info_parts infoE
  have hm1 : ¬ (m : Int) < 1 := by omega
  have hfn : ∀ (bs : Array Value) (w : World), (binOp BinOp.eql 58 (.func (.func 43) #[] bs) Value.nilFunc).run Try.prog w = .ok (.bool false) w := fun bs w => by kernel_rfl
  have c0 := h0.cell
  clear h
  refine calls_of_marks Try.func8 rfl ?_
  simp only [Try.ntmps8, List.size_toArray, List.length_cons, List.length_nil, Nat.reduceAdd, Nat.reduceSub, Array.replicate_succ, Array.replicate_zero, List.push_toArray, List.append_toArray, List.nil_append, List.cons_append]
  go_upto_region 2 with fail
  try simp only [World.size_alloc]
  generalize ((w.alloc (.cells #[.int .i64 m] 3)).alloc (.cells #[.slice none 0 0] 28)) = W1 at hgw h0 h1 hzz c0 ⊢
  go_wp2_with fail
  refine (bupto_any B key _).mono ?_
  rintro e w3 ⟨rfl, hw3⟩
  have hg13 : G W1 w3 := by rw [hw3]; exact ((G.refl _).alloc _).alloc _
  have hgw3 := hgw.trans hg13
  have k1 : Boxed w3 (w.heap.size + 2) 25 (.pointer (some ⟨B, 0, none⟩)) := by rw [hw3, ← hzz]; exact boxed_at W1 [_, _] 0 _ _ rfl
  have k2 : Boxed w3 (w.heap.size + 2 + 1) 3 (.int .i64 key) := by rw [hw3, ← hzz]; exact boxed_at W1 [_, _] 1 _ _ rfl
  have hz3 : w3.heap.size = w.heap.size + 4 := by rw [hw3]; simp [hzz]
  have hb0 := hg13.boxed h0
  have hb1 := hg13.boxed h1
  have c0 := hb0.cell
  rw [hzz]
  have hSl : ∀ k, S k ∨ P k → k < w.heap.size := HH.out.lt
  have hseq := bupto_seq S P B s key (w.heap.size + 2) (w.heap.size + 2 + 1) w3 ⟨p, HH.out.g hgw3⟩ k1 k2 hn hps (fun h => by have := hSl _ (.inl h); omega) (fun h => by have := hSl _ (.inl h); omega)
  have HSL := Lib.hid hSl
  have HIT : Hid (∀ k, (S k ∨ k = w.heap.size + 2 ∨ k = w.heap.size + 2 + 1) → k < w3.heap.size ∧ k ≠ w.heap.size ∧ k ≠ w.heap.size + 1 ∧ (S k ∨ w.heap.size ≤ k)) := Lib.hid (fun k hk => by
    rcases hk with h | h | h
    · have h1 := hSl k (.inl h); exact ⟨by omega, by omega, by omega, .inl h⟩
    · exact ⟨by omega, by omega, by omega, .inr (by omega)⟩
    · exact ⟨by omega, by omega, by omega, .inr (by omega)⟩)
  have HTN := Lib.hid (tw_len key s)
  clear hw3 hg13 k1 k2 h0 h1 hgw hSl
  go_wp2_with fail
  clear hfn hm1
  refine range_wp3 (gf := 43) (lb := #[.pointer (some ⟨w.heap.size + 2, 0, none⟩), .pointer (some ⟨w.heap.size + 2 + 1, 0, none⟩)]) (fun x W => W.alloc (.cells #[.string x.1.f, .string x.1.t, .string x.1.l, .int .i64 x.1.tm, x.1.v] 33)) (fun x W => (G.refl W).alloc _) rfl (enters_of Try.func43 (by kernel_rfl) rfl)
    (OKE.ok key s) hseq (G.refl _) (fun k hk => (HIT.out k hk).1) (fun k hk => by have := HSL.out k (.inr hk); omega) (fun _ => rfl)
    (fun pre Fo W => pre.length < m ∧ LupI P w m (.int .i64 m) pre S Fo W)
    (fun c pre Fo W => c = .exit 0 ∧ pre.length = m ∧ LupI P w m (.int .i64 m) pre S Fo W)
    (fun pre => (Stable.pure _).and (LupI.stable _ _ _ _ _ _))
    (fun c pre => (Stable.pure _).and ((Stable.pure _).and (LupI.stable _ _ _ _ _ _)))
    ⟨by simp; omega, .slice none 0 0, ⟨fun h => (HIT.out _ h).2.1 rfl, hb0⟩, ⟨fun h => (HIT.out _ h).2.2.1 rfl, hb1⟩, ⟨fun _ h => (by cases h), World.ownsRow_nil _ _ _ _⟩, fun x hx => (by cases hx), ⟨fun k hk => (HIT.out k hk).2.2.2, hgw3.fr _⟩⟩
    (fun x W => { tmps := #[.pointer (some ⟨B, 0, none⟩), .int .i64 key, .int .i64 m, undef, undef, .pointer (some ⟨w.heap.size, 0, none⟩), .slice none 0 0, .pointer (some ⟨w.heap.size + 1, 0, none⟩), .pointer (some ⟨W.heap.size, 0, none⟩), .int .i64 m, .bool false, .pointer (some ⟨B, 0, none⟩), .int .i64 key, .func (.func 43) #[] #[.pointer (some ⟨w.heap.size + 2, 0, none⟩), .pointer (some ⟨w.heap.size + 2 + 1, 0, none⟩)], .agg #[.string x.1.f, .string x.1.t, .string x.1.l, .int .i64 x.1.tm, x.1.v], undef, undef, undef, undef, undef, undef, undef, undef, undef], defers := [] }) ?assign ?body ?done ?stop
  case assign =>
    intro l x W K hK
    obtain ⟨⟨f, t, lb, tm, v, ps⟩, px, nx, cx, hv⟩ := x
    simp only at hv
    subst hv
    simp only [encE, ev]
    gi_wp2
    exact hK
  case body =>
    rintro l pre x Fo W0 W hW0 hW3 hfrW hfo hfl hsz2 ⟨hpm, vo, hA⟩ hok
    obtain ⟨⟨xf, xt, xl, xm, v, ps⟩, px, nx, cx, hv⟩ := x
    simp only at hv
    subst hv
    simp only at hfrW
    have hne8 : ¬ W0.heap.size = w3.heap.size + 1 := by omega
    have k0 : W.cell? ⟨W0.heap.size, 0, none⟩ = some (.string xf) := hfrW.cell (p := ⟨W0.heap.size, 0, none⟩) hne8 (cell_alloc_at W0 [.string xf, .string xt, .string xl, .int .i64 xm, .slice px nx cx] 33 (0, 0) 0 _ rfl)
    have k1 : W.cell? ⟨W0.heap.size, 1, none⟩ = some (.string xt) := hfrW.cell (p := ⟨W0.heap.size, 1, none⟩) hne8 (cell_alloc_at W0 [.string xf, .string xt, .string xl, .int .i64 xm, .slice px nx cx] 33 (0, 0) 1 _ rfl)
    have k2 : W.cell? ⟨W0.heap.size, 2, none⟩ = some (.string xl) := hfrW.cell (p := ⟨W0.heap.size, 2, none⟩) hne8 (cell_alloc_at W0 [.string xf, .string xt, .string xl, .int .i64 xm, .slice px nx cx] 33 (0, 0) 2 _ rfl)
    have k3 : W.cell? ⟨W0.heap.size, 3, none⟩ = some (.int .i64 xm) := hfrW.cell (p := ⟨W0.heap.size, 3, none⟩) hne8 (cell_alloc_at W0 [.string xf, .string xt, .string xl, .int .i64 xm, .slice px nx cx] 33 (0, 0) 3 _ rfl)
    have k4 : W.cell? ⟨W0.heap.size, 4, none⟩ = some (.slice px nx cx) := hfrW.cell (p := ⟨W0.heap.size, 4, none⟩) hne8 (cell_alloc_at W0 [.string xf, .string xt, .string xl, .int .i64 xm, .slice px nx cx] 33 (0, 0) 4 _ rfl)
    obtain ⟨lp, lc, hvl⟩ := ownsRow_shape hA.row.2
    subst hvl
    have hc0 := hA.bx.2.cell
    have hc1 := hA.ob.2.cell
    have hf1 := hA.ob.2.frozen
    have hrl := hA.row.2.lt
    have hpn : pre.length ≤ 100000 := by
      have h1 := hok.1
      have h2 := h1.length_le
      simp only [List.length_map, List.length_append, List.length_singleton] at h2
      have h3 := HTN.out
      omega
    obtain ⟨XX, hXX⟩ : ∃ X : EE, X = ⟨⟨xf, xt, xl, xm, .slice px nx cx, ps⟩, px, nx, cx, rfl⟩ := ⟨_, rfl⟩
    rw [← hXX] at hok ⊢
    have hec : ecells XX.1 = [.string xf, .string xt, .string xl, .int .i64 xm, .slice px nx cx] := by rw [hXX]; rfl
    have HSTEP : Hid (∀ (w1' : World) (v' : Value), (∀ g, v'.ownBlock = some g → (Value.slice lp pre.length lc).ownBlock = some g ∨ W.heap.size + 1 ≤ g) → Fr (fun q => (Value.slice lp pre.length lc).ownBlock = some q) W w1' → w1'.ownsRow (w.heap.size + 2) 33 5 v' (pre.length + 1) (ecs (pre.map (·.1)) ++ [.string xf, .string xt, .string xl, .int .i64 xm, .slice px nx cx]) → LupA P w m (.int .i64 m) (pre ++ [XX]) S v' Fo (w1'.setCell ⟨w.heap.size + 1, 0, none⟩ v') ∧ Fr (fun k => ¬ (Fo k ∨ P k)) W (w1'.setCell ⟨w.heap.size + 1, 0, none⟩ v')) := Lib.hid (fun w1' v' hat hfa hown =>
      LupI.step hA hfl (by omega) hok.2.1 (by omega) hok.2.2 (fun k hk => HSL.out k (.inr hk)) hat hfa (by rw [hec]; exact hown))
    clear hXX hec
    have HNB : Hid (∀ b, b < w.heap.size + 2 → ¬ (Value.slice lp pre.length lc).ownBlock = some b) := Lib.hid (fun b hb e => by have := (hrl _ e).1; omega)
    have HXX := Lib.hid (And.intro hA.bx.2 hA.ob.2)
    have HRW := Lib.hid hA.row.2
    obtain ⟨n, hnn⟩ : ∃ n, n = pre.length := ⟨_, rfl⟩
    rw [← hnn] at hc1 hpm hpn HNB HXX HRW HSTEP
    have HN := Lib.hid hnn
    clear hfrW hok hA hrl hseq hb0 hb1 hnn
    by_cases hfull : n + 1 < m
    · have hfd : ¬ (n : Int) + 1 = (m : Int) := by omega
      gi_wp2_with (gi_at_builtin; refine wpListIn_append2 _ rfl _ _ 28 rfl (w.heap.size + 2) 33 i0 (.agg #[.string ⟨#[]⟩, .string ⟨#[]⟩, .string ⟨#[]⟩, .int .i64 0, .slice none 0 0]) 5 80 Try.underlying28 hi hz0 hz1 hz2 rfl (by decide) (.slice lp n lc) n (ecs (pre.map (·.1))) rfl ((G.alloc (G.refl W) _).ownsRow HRW.out) ⟨W.heap.size, 0, none⟩ 1 1 [.string xf, .string xt, .string xl, .int .i64 xm, .slice px nx cx] rfl rfl (World.news_of_block (cs := #[.string xf, .string xt, .string xl, .int .i64 xm, .slice px nx cx]) (t := 33) (fr := (0, 0)) (alloc_new W _)) (by simp [Value.oneCell']) (by unfold maxLen; omega) (by omega) (by simp; omega) ?_; intro v' w1' hown hgrow hnil hat; obtain ⟨op, oc, rfl⟩ := ownsRow_shape hown; have hfa : Fr (fun q => (Value.slice lp n lc).ownBlock = some q) W w1' := (((G.refl W).alloc _).fr _).trans (grownBy_fr hgrow) (fun _ _ x => x); have hxa := hfa.boxed HXX.out.1 (HNB.out _ (by omega)); have hxb := hfa.boxed HXX.out.2 (HNB.out _ (by omega)); have ca := hxa.cell; have cb := hxb.cell; have fb := hxb.frozen; have HST := Lib.hid (HSTEP.out w1' (.slice op (n + 1) oc) (fun g hg => by have := hat g hg; simpa using this) hfa hown); have HXB := Lib.hid (And.intro hxa hxb); clear hown hgrow hnil hat hxa hxb hfa k0 k1 k2 k3 k4 hc0 hc1 hf1)
      exact ⟨HST.out.2, by rw [List.length_append, ← HN.out]; simpa using hfull, _, HST.out.1⟩
    · have hfd : (n : Int) + 1 = (m : Int) := by omega
      gi_wp2_with (gi_at_builtin; refine wpListIn_append2 _ rfl _ _ 28 rfl (w.heap.size + 2) 33 i0 (.agg #[.string ⟨#[]⟩, .string ⟨#[]⟩, .string ⟨#[]⟩, .int .i64 0, .slice none 0 0]) 5 80 Try.underlying28 hi hz0 hz1 hz2 rfl (by decide) (.slice lp n lc) n (ecs (pre.map (·.1))) rfl ((G.alloc (G.refl W) _).ownsRow HRW.out) ⟨W.heap.size, 0, none⟩ 1 1 [.string xf, .string xt, .string xl, .int .i64 xm, .slice px nx cx] rfl rfl (World.news_of_block (cs := #[.string xf, .string xt, .string xl, .int .i64 xm, .slice px nx cx]) (t := 33) (fr := (0, 0)) (alloc_new W _)) (by simp [Value.oneCell']) (by unfold maxLen; omega) (by omega) (by simp; omega) ?_; intro v' w1' hown hgrow hnil hat; obtain ⟨op, oc, rfl⟩ := ownsRow_shape hown; have hfa : Fr (fun q => (Value.slice lp n lc).ownBlock = some q) W w1' := (((G.refl W).alloc _).fr _).trans (grownBy_fr hgrow) (fun _ _ x => x); have hxa := hfa.boxed HXX.out.1 (HNB.out _ (by omega)); have hxb := hfa.boxed HXX.out.2 (HNB.out _ (by omega)); have ca := hxa.cell; have cb := hxb.cell; have fb := hxb.frozen; have HST := Lib.hid (HSTEP.out w1' (.slice op (n + 1) oc) (fun g hg => by have := hat g hg; simpa using this) hfa hown); have HXB := Lib.hid (And.intro hxa hxb); clear hown hgrow hnil hat hxa hxb hfa k0 k1 k2 k3 k4 hc0 hc1 hf1)
      exact ⟨HST.out.2, rfl, by rw [List.length_append, ← HN.out]; simp; omega, _, HST.out.1⟩
  case done =>
    rintro D xs It Fo W W3 hD hDl hIF hFD hIt hFo ⟨hdo, hnow⟩ hfr ⟨hlm, vo, hA⟩ hK
    obtain ⟨lp, lc, hvl⟩ := ownsRow_shape hA.row.2
    subst hvl
    have hL : (xs.map (fun x : EE => x.1)).length = xs.length := by rw [List.length_map]
    have hmo : (xs.map (·.1)).map outE = xs.map outX := by rw [List.map_map]; rfl
    have hupn : upN key m s = xs.length := by
      unfold upN
      rw [← hdo, List.length_take, List.length_map]; omega
    have htk : (tw key s).take m = xs.map outX := by
      rw [← hdo, List.take_of_length_le (by rw [List.length_map]; omega)]
    have hnW : BufNow S P B (s.drop xs.length) W := hnow.fr hfr (fun k hk e => by have := HSL.out k hk; have e2 : k = w3.heap.size + 1 := e; omega)
    have hc1 := hA.ob.2.cell
    have HFIN : Hid (LUpOut S P B s key m w (.returned (.slice lp xs.length lc)) (W.putObj D (.deferred none))) := Lib.hid (by
      have hp := putObj_fr W D (.deferred none)
      have hz := hz3
      refine ⟨_, xs.map (·.1), rfl, ?_, by rw [hmo, htk], fun E hE => ?_, fun g hg => ?_, ?_, hA.fs.2.trans hp (fun i hi e => by have e2 : i = D := e; omega)⟩
      · rw [hL]
        exact ownsRow_mono (hp.ownsRow hA.row.2 (fun g hg e => hA.row.1 g hg (by rw [e]; exact hFD))) (by omega)
      · obtain ⟨x, hx, rfl⟩ := List.mem_map.1 hE
        have h1 := (hA.own x hx).1.fr hp (fun g hg e => (hA.own x hx).2 g hg (by rw [e]; exact hFD))
        exact ⟨ownsRow_mono h1.own (by omega), h1.n, h1.ps, h1.f, h1.t, h1.l⟩
      · have h1 := (hA.row.2.lt g hg).1
        exact ⟨fun hc => by have := HSL.out g (.inl hc); omega, fun hc => by have := HSL.out g (.inr hc); omega⟩
      · rw [hupn]
        exact hnW.fr hp (fun k hk e => by have := HSL.out k hk; have e2 : k = D := e; omega))
    have HK := Lib.hid hK
    clear hA hL hmo hupn htk hnW hnow hK hseq hfr hb0 hb1
    generalize xs.length = n at hc1 HFIN hlm ⊢
    clear hlm
    go_wp2_with fail
    refine leave_mark (D := D) HK.out (leave_nil (v := .slice lp n lc) (by simp [results, Try.results8, go_sem]) HFIN.out)
  case stop =>
    rintro D c pre It Fo W W3 hD hDl hIF hFD hIt hFo ⟨hpo, hnow⟩ hfr ⟨rfl, hlm, vo, hA⟩ hK
    obtain ⟨lp, lc, hvl⟩ := ownsRow_shape hA.row.2
    subst hvl
    have hL : (pre.map (fun x : EE => x.1)).length = pre.length := by rw [List.length_map]
    have hmo : (pre.map (·.1)).map outE = pre.map outX := by rw [List.map_map]; rfl
    have hupn : upN key m s = pre.length := by
      unfold upN
      have h1 := hpo.length_le
      rw [List.length_map] at h1
      rw [List.length_take]; omega
    have htk : (tw key s).take m = pre.map outX := by
      have h1 := List.prefix_iff_eq_take.1 hpo
      rw [List.length_map, hlm] at h1
      exact h1.symm
    have hnW : BufNow S P B (s.drop pre.length) W := hnow.fr hfr (fun k hk e => by have := HSL.out k hk; have e2 : k = w3.heap.size + 1 := e; omega)
    have hc1 := hA.ob.2.cell
    have HFIN : Hid (LUpOut S P B s key m w (.returned (.slice lp pre.length lc)) (W.putObj D (.deferred none))) := Lib.hid (by
      have hp := putObj_fr W D (.deferred none)
      have hz := hz3
      refine ⟨_, pre.map (·.1), rfl, ?_, by rw [hmo, htk], fun E hE => ?_, fun g hg => ?_, ?_, hA.fs.2.trans hp (fun i hi e => by have e2 : i = D := e; omega)⟩
      · rw [hL]
        exact ownsRow_mono (hp.ownsRow hA.row.2 (fun g hg e => hA.row.1 g hg (by rw [e]; exact hFD))) (by omega)
      · obtain ⟨x, hx, rfl⟩ := List.mem_map.1 hE
        have h1 := (hA.own x hx).1.fr hp (fun g hg e => (hA.own x hx).2 g hg (by rw [e]; exact hFD))
        exact ⟨ownsRow_mono h1.own (by omega), h1.n, h1.ps, h1.f, h1.t, h1.l⟩
      · have h1 := (hA.row.2.lt g hg).1
        exact ⟨fun hc => by have := HSL.out g (.inl hc); omega, fun hc => by have := HSL.out g (.inr hc); omega⟩
      · rw [hupn]
        exact hnW.fr hp (fun k hk e => by have := HSL.out k hk; have e2 : k = D := e; omega))
    have HK := Lib.hid hK
    clear hA hL hmo hupn htk hnW hnow hK hseq hfr hb0 hb1
    generalize pre.length = n at hc1 HFIN hlm ⊢
    clear hlm
    go_wp2_with fail
    refine leave_mark (D := D) HK.out (leave_nil (v := .slice lp n lc) (by simp [results, Try.results8, go_sem]) HFIN.out)
end Go.Proofs.Ytahdodijpmkddaa
