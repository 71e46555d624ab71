/- the buffer: the iterator UpTo -/
import Derived.Test.YthhmmjpgefinmaaBufN
import Derived.Test.YthhmmjpgefinmaaSeq3
set_option maxRecDepth 10000
namespace Go.Proofs.Ythhmmjpgefinmaa
set_option linter.unusedVariables false
set_option linter.unusedSimpArgs false
open Go.RowKit Go.Shelf
attribute [local go_sem] Oper.semAt_some

theorem bupto_any (B : Nat) (key : Int) (w : World) : Calls Try.prog 67 #[.pointer (some ⟨B, 0, none⟩), .int .i64 key] w fun e w' =>
    e = .returned (.func (.func 79) #[] #[.pointer (some ⟨w.heap.size, 0, none⟩), .pointer (some ⟨w.heap.size + 1, 0, none⟩)]) ∧ w' = (w.alloc (.cells #[.pointer (some ⟨B, 0, none⟩)] 42)).alloc (.cells #[.int .i64 key] 3) := by
  go_enter Try.func67, Try.ntmps67
  go_wp2
  go_ret
  exact ⟨rfl, rfl⟩
/-- those up to a time -/
def tw (key : Int) (s : List Out) : List Out := s.takeWhile (fun o => decide (otm o ≤ key))
def BufNow (S P : Nat → Prop) (B : Nat) (s : List Out) (W : World) : Prop := ∃ p, BufIn S P W B s p
theorem BufNow.fr {S P T : Nat → Prop} {B : Nat} {s : List Out} {W W' : World} (h : BufNow S P B s W) (hf : Fr T W W') (hd : ∀ k, S k ∨ P k → ¬ T k) : BufNow S P B s W' := h.elim fun p h => ⟨p, h.fr hf hd⟩
theorem BufNow.g {S P : Nat → Prop} {B : Nat} {s : List Out} {W W' : World} (h : BufNow S P B s W) (hg : G W W') : BufNow S P B s W' := h.fr (hg.fr (fun _ => False)) (fun _ _ x => x)
/-- an edge whose props are a slice -/
abbrev EE := { E : Edg // IsE E }
def outX (x : EE) : Out := outE x.1
def encE (x : EE) : Array Value := #[ev x.1]
/-- what is handed out -/
def OKE (key : Int) (s : List Out) (n : Nat) (pre : List EE) (x : EE) (It : Nat → Prop) (W : World) : Prop := (pre ++ [x]).map outX <+: tw key s ∧ OwnE W n x.1 ∧ ∀ g, x.1.v.ownBlock = some g → ¬ It g
theorem OKE.ok (key : Int) (s : List Out) : ∀ n pre x It It' W W', OKE key s n pre x It W → (∀ k, It' k → It k ∨ k < n) → Fr (fun k => k < n) W W' → OKE key s n pre x It' W' := fun n pre x It It' W W' h h2 hf =>
  ⟨h.1, h.2.1.fr hf (fun g hg e => by have := (h.2.1.own.lt g hg).1; have e2 : g < n := e; omega), fun g hg hc => (h2 g hc).elim (h.2.2 g hg) (fun e => by have := (h.2.1.own.lt g hg).1; omega)⟩
/-- where the iterator stands -/
structure BUp (S P : Nat → Prop) (B : Nat) (s : List Out) (key : Int) (b1 b2 : Nat) (W : World) (J : List EE → (Nat → Prop) → World → Prop) (pre : List EE) (s' : List Out) (t : Int) (b : Bool) (wr : World) : Prop where
  cat : pre.map outX ++ s' = s
  ok : ∀ o ∈ pre.map outX, otm o ≤ key
  now : BufNow S P B s' wr
  nil : s' = [] → b = false
  cons : ∀ o s2, s' = o :: s2 → b = true ∧ t = otm o
  h1 : Boxed wr b1 42 (.pointer (some ⟨B, 0, none⟩))
  h2 : Boxed wr b2 3 (.int .i64 key)
  j : J pre (fun k => S k ∨ k = b1 ∨ k = b2) wr
  size : W.heap.size ≤ wr.heap.size
theorem tw_app {key : Int} : ∀ {l m : List Out}, (∀ o ∈ l, otm o ≤ key) → tw key (l ++ m) = l ++ tw key m
  | [], m, _ => rfl
  | a :: l, m, h => by
    unfold tw
    rw [List.cons_append, List.takeWhile_cons, if_pos (by simpa using h a (List.mem_cons_self ..))]
    have := tw_app (l := l) (m := m) (fun o ho => h o (List.mem_cons_of_mem _ ho))
    unfold tw at this
    rw [this]; rfl
theorem tw_yes {key : Int} {o : Out} {s : List Out} (h : otm o ≤ key) : tw key (o :: s) = o :: tw key s := by unfold tw; rw [List.takeWhile_cons, if_pos (by simpa using h)]
theorem tw_no {key : Int} {o : Out} {s : List Out} (h : ¬ otm o ≤ key) : tw key (o :: s) = [] := by unfold tw; rw [List.takeWhile_cons, if_neg (by simpa using h)]
set_option maxHeartbeats 4000000 in
theorem bupto_seq (S P : Nat → Prop) (B : Nat) (s : List Out) (key : Int) (b1 b2 : Nat) (w : World) (h : BufNow S P B s w) (h1 : Boxed w b1 42 (.pointer (some ⟨B, 0, none⟩))) (h2 : Boxed w b2 3 (.int .i64 key)) (hn : s.length ≤ 100000) (hps : ∀ o ∈ s, o.2.2.2.2.length ≤ 1000000)
    (hs1 : ¬ S b1) (hs2 : ¬ S b2) :
    Seq3 Try.prog 79 #[.pointer (some ⟨b1, 0, none⟩), .pointer (some ⟨b2, 0, none⟩)] encE P (fun k => S k ∨ k = b1 ∨ k = b2)
      (fun xs _ W => xs.map outX = tw key s ∧ BufNow S P B (s.drop xs.length) W) (fun pre _ W => pre.map outX <+: tw key s ∧ BufNow S P B (s.drop pre.length) W) (OKE key s) w := by
  intro l J Jx W hW hJ hJx hY hj0
  have HY := Lib.hid hY
  have HJ := Lib.hid hJ
  have hat0 : BufNow S P B s W := h.g hW
  replace h1 := hW.boxed h1
  replace h2 := hW.boxed h2
  have hb1 := h1.lt
  have hb2 := h2.lt
  clear hY hJ hJx h
  show Calls Try.prog 79 #[.func (.yield l) #[] #[], .pointer (some ⟨b1, 0, none⟩), .pointer (some ⟨b2, 0, none⟩)] W _
  have c1 := h1.cell
  have c2 := h2.cell
  obtain ⟨p0, hp0⟩ := hat0
  have hSl : ∀ k, S k → k < W.heap.size := fun k hk => hp0.lt k (.inl hk)
  have HSL := Lib.hid hSl
  have HPL := Lib.hid (show ∀ k, P k → k < W.heap.size from fun k hk => hp0.lt k (.inr hk))
  have HSP := Lib.hid hp0.sp
  obtain ⟨bc0, bc1⟩ := box2b hp0
  have hfst := hp0.hk.first hp0.keys hp0.str
  have HF0 := Lib.hid (bfirst_any p0.SH p0.H p0.v p0.hs W hp0.hat)
  have HP0 := Lib.hid hp0
  clear hp0 hSl
  go_enter Try.func79, Try.ntmps79
  go_wp2_with fail
  go_step3
  go_wp2_with fail
  refine (bmade_any bc1).mono ?_
  rintro e w' ⟨rfl, rfl⟩
  go_wp2_with fail
  refine wp_label ?_
  go_wp2_with fail
  refine HF0.out.mono ?_
  rintro e w1 ⟨rfl, hg1⟩
  obtain ⟨x0, hx0⟩ : ∃ x, x = (at' p0.hs 0).1 := ⟨_, rfl⟩
  obtain ⟨ib, hib⟩ : ∃ x, x = isB p0.hs := ⟨_, rfl⟩
  rw [← hx0, ← hib]
  have HU0 : Hid (BUp S P B s key b1 b2 W J [] s x0 ib w1) := Lib.hid ⟨rfl, fun o ho => (by cases ho), ⟨p0, HP0.out.g hg1⟩, fun e => by rw [hib]; exact hfst.1 e, fun o s2 e => by
    have := hfst.2 o s2 e
    exact ⟨by rw [hib]; exact this.1, by rw [hx0, this.2.1]⟩, hg1.boxed h1, hg1.boxed h2, HJ.out [] _ _ W _ hj0 (fun k hk => hk) (fun k hk => .inl hk) (hg1.fr _), hg1.size⟩
  clear hx0 hib hfst HF0 HP0 bc0 bc1 h1 h2 c1 c2 hj0 hg1
  go_wp2_with fail
  go_loopg [4, 5] (s.length + 1) (fun g tv is wr => ∃ (pre : List EE) (s' : List Out) (t : Int) (b : Bool), g = s'.length + 1 ∧ tv = .int .i64 t ∧ is = .bool b ∧ Hid (BUp S P B s key b1 b2 W J pre s' t b wr) ∧ s'.length ≤ 100000)
  case atStart => exact ⟨[], s, x0, ib, rfl, rfl, rfl, HU0, hn⟩
  case round =>
    clear HU0
    obtain ⟨pre, s', t, b, rfl, rfl, rfl, HU, hkn⟩ := hrel
    have c1 := HU.out.h1.cell
    have c2 := HU.out.h2.cell
    cases hs' : s' with
    | nil =>
      have hb : b = false := HU.out.nil hs'
      subst hb
      have HE := Lib.hid (show pre.map outX = tw key s ∧ BufNow S P B (s.drop pre.length) wr by
        have h1 := HU.out.cat
        rw [hs', List.append_nil] at h1
        refine ⟨?_, ?_⟩
        · rw [← h1]
          have := tw_app (key := key) (l := pre.map outX) (m := []) HU.out.ok
          rw [List.append_nil] at this
          rw [this]; simp [tw]
        · have h2 := HU.out.now
          rw [hs'] at h2
          rw [← h1, List.drop_of_length_le (by simp)]
          exact h2)
      go_wp2_with fail
      go_returns
      exact ⟨⟨_, rfl⟩, _, fun k hk => hk, fun k hk => .inl hk, .inl ⟨pre, HU.out.j, HE.out⟩⟩
    | cons o s2 =>
      obtain ⟨hb, ht⟩ := HU.out.cons o s2 hs'
      subst hb
      by_cases hle : t ≤ key
      · have hle' : decide (t ≤ key) = true := by simpa using hle
        obtain ⟨p, hp⟩ := HU.out.now
        rw [hs'] at hp
        have hmo : o ∈ s := by rw [← HU.out.cat, hs']; simp
        have HTK := Lib.hid (btake_any S P B o s2 p wr hp (by rw [hs'] at hkn; simp at hkn; omega) (hps o hmo))
        rw [← ht] at HTK
        have HPR : Hid ((pre.map outX ++ [o]) ++ s2 = s ∧ ∀ x ∈ pre.map outX ++ [o], otm x ≤ key) := Lib.hid ⟨by rw [← HU.out.cat, hs']; simp, fun x hx => by
          rcases List.mem_append.1 hx with e | e
          · exact HU.out.ok x e
          · rw [List.mem_singleton.1 e, ← ht]; exact hle⟩
        have hkl : s'.length = s2.length + 1 := by rw [hs']; rfl
        clear hp hmo hs' ht
        go_upto_region 4 with fail
        refine (wpIn_wide (n := 3)).1 ?_
        gi_wp2
        refine ⟨trivial, callsIn_wide.2 (HTK.out.mono ?_)⟩
        rintro e w2 ⟨E, rfl, hEo, hown, p', hp', hf2⟩
        have hie : IsE E := hown.isE
        have hEo2 : outX ⟨E, hie⟩ = o := hEo
        have hFI : Fr (fun k => S k ∨ k = b1 ∨ k = b2) wr w2 := hf2.mono (fun k hk => .inl hk)
        have hj2 := HJ.out pre _ _ wr w2 HU.out.j (fun _ h => h) (fun _ h => .inl h) hFI
        have HB1 := Lib.hid (hf2.boxed HU.out.h1 hs1)
        have HB2 := Lib.hid (hf2.boxed HU.out.h2 hs2)
        have HAT2 : Hid (BufNow S P B s2 w2) := Lib.hid ⟨p', hp'⟩
        have hz2 := hf2.size
        have hszw := HU.out.size
        have HLT2 : Hid (∀ k, S k ∨ k = b1 ∨ k = b2 → k < w2.heap.size) := Lib.hid (fun k hk => by
          rcases hk with e | e | e
          · have := HSL.out k e; omega
          · omega
          · omega)
        have hown2 : OwnE w2 W.heap.size E := ⟨ownsRow_mono hown.own hszw, hown.n, hown.ps, hown.f, hown.t, hown.l⟩
        obtain ⟨fn, tmps, assign, body, hy, hR⟩ := HY.out pre ⟨E, hie⟩ _ w2 (fun k hk => .inl hk) HLT2.out (by omega) hj2 ⟨by
          rw [← HPR.out.1, tw_app HPR.out.2, List.map_append, List.map_singleton, hEo2]
          exact ⟨_, rfl⟩, hown2, fun g hg hc => by
            have h3 := (hown2.own.lt g hg).1
            rcases hc with e | e | e
            · have := HSL.out g e; omega
            · omega
            · omega⟩
        have HR := Lib.hid hR
        have HPR2 : Hid ((pre ++ [(⟨E, hie⟩ : EE)]).map outX ++ s2 = s ∧ ∀ x ∈ (pre ++ [(⟨E, hie⟩ : EE)]).map outX, otm x ≤ key) := Lib.hid (by rw [List.map_append, List.map_singleton, hEo2]; exact HPR.out)
        obtain ⟨pe, ne, ce, hev⟩ := hown.isE
        have hEv : ev E = .agg #[.string E.f, .string E.t, .string E.l, .int .i64 E.tm, .slice pe ne ce] := by unfold ev; rw [hev]
        simp only [encE, hEv] at hy
        rw [hEv]
        clear hR hj2 hFI hf2 c1 c2 hle HTK hown hown2 hp' hEo hEo2 hev hEv HPR
        gi_wp2
        refine HR.out.mono ?_
        rintro e W3 hrp
        rcases hrp.elim with ⟨rfl, hfr, hj3⟩ | ⟨rfl, hfr, hj3⟩
        · have hT : ∀ k, (S k ∨ k = b1 ∨ k = b2) → ¬ (fun k => ¬ ((S k ∨ k = b1 ∨ k = b2) ∨ P k)) k := fun k hk h => h (.inl hk)
          have HB13 := Lib.hid (hfr.boxed HB1.out (hT b1 (.inr (.inl rfl))))
          have HB23 := Lib.hid (hfr.boxed HB2.out (hT b2 (.inr (.inr rfl))))
          have HAT3 : Hid (BufNow S P B s2 W3) := Lib.hid (HAT2.out.fr hfr (fun k hk h => h (hk.imp .inl id)))
          have c1 := HB13.out.cell
          have hz3 := hfr.size
          have HJ3 := Lib.hid hj3
          obtain ⟨p3, hp3⟩ := HAT3.out
          obtain ⟨bc0, bc1⟩ := box2b hp3
          have hfst := hp3.hk.first hp3.keys hp3.str
          have HF := Lib.hid (bfirst_any p3.SH p3.H p3.v p3.hs W3 hp3.hat)
          obtain ⟨y0, hy0⟩ : ∃ x, x = (at' p3.hs 0).1 := ⟨_, rfl⟩
          obtain ⟨ib, hib⟩ : ∃ x, x = isB p3.hs := ⟨_, rfl⟩
          rw [← hy0, ← hib] at HF
          have HFS := Lib.hid (show (s2 = [] → ib = false) ∧ ∀ o' s3, s2 = o' :: s3 → ib = true ∧ y0 = otm o' from ⟨fun e => by rw [hib]; exact hfst.1 e, fun o' s3 e => by
            have := hfst.2 o' s3 e
            exact ⟨by rw [hib]; exact this.1, by rw [hy0, this.2.1]⟩⟩)
          clear hfr hj3 hT HR hy hp3 hfst hy0 hib bc1
          gi_wp2
          go_wp2_with fail
          refine HF.out.mono ?_
          rintro e w5 ⟨rfl, hg5⟩
          have HU6 : Hid (BUp S P B s key b1 b2 W J (pre ++ [⟨E, hie⟩]) s2 y0 ib w5) := Lib.hid ⟨HPR2.out.1, HPR2.out.2, HAT3.out.g hg5, HFS.out.1, HFS.out.2, hg5.boxed HB13.out, hg5.boxed HB23.out,
            HJ.out _ _ _ W3 _ HJ3.out (fun k hk => hk) (fun k hk => .inl hk) (hg5.fr _), by have := hg5.size; omega⟩
          have hs2l : s2.length ≤ 100000 := by omega
          clear hg5 c1 bc0
          go_wp2_with fail
          go_roundg (s2.length + 1)
          case rel => exact ⟨pre ++ [⟨E, hie⟩], s2, y0, ib, rfl, rfl, rfl, HU6, hs2l⟩
          all_goals omega
        · gi_wp2
          go_wp2_with fail
          go_returns
          have HAT3 : Hid (BufNow S P B s2 W3) := Lib.hid (HAT2.out.fr hfr (fun k hk h => h (hk.imp .inl id)))
          exact ⟨⟨_, rfl⟩, _, fun k hk => hk, fun k hk => .inl hk, .inr ⟨_, hj3, ⟨by rw [← HPR2.out.1, tw_app HPR2.out.2]; exact ⟨_, rfl⟩, by
            rw [← HPR2.out.1, List.drop_append, List.drop_of_length_le (by simp)]
            simpa using HAT3.out⟩⟩⟩
      · have hle' : decide (t ≤ key) = false := by simpa using hle
        have HE := Lib.hid (show pre.map outX = tw key s ∧ BufNow S P B (s.drop pre.length) wr by
          have h1 := HU.out.cat
          refine ⟨?_, ?_⟩
          · rw [← h1, tw_app HU.out.ok, hs', tw_no (by rw [← ht]; exact hle), List.append_nil]
          · have h2 := HU.out.now
            rw [← h1, List.drop_append, List.drop_of_length_le (by simp)]
            simpa using h2)
        clear hs' ht hle
        go_wp2_with fail
        go_returns
        exact ⟨⟨_, rfl⟩, _, fun k hk => hk, fun k hk => .inl hk, .inl ⟨pre, HU.out.j, HE.out⟩⟩
end Go.Proofs.Ythhmmjpgefinmaa
