/- laid together: BufY BufZ BufOp -/
import Derived.Test.YtahdodijpmkddaaBufW
import Derived.Test.YtahdodijpmkddaaBufL
import Derived.Test.YtahdodijpmkddaaBufU
import Derived.Test.YtahdodijpmkddaaEdgeN
set_option maxRecDepth 10000
namespace Go.Proofs.Ytahdodijpmkddaa
set_option linter.unusedVariables false
set_option linter.unusedSimpArgs false
open Go.RowKit Go.Shelf
attribute [local go_sem] Oper.semAt_some

/-- a deed -/
structure Dg where
  what : Int
  n : Int
  some' : Int
  E : Edg
def gcells : List Dg → List Value
  | [] => []
  | d :: l => .int .i64 d.what :: .int .i64 d.n :: .int .i64 d.some' :: .string d.E.f :: .string d.E.t :: .string d.E.l :: .int .i64 d.E.tm :: d.E.v :: gcells l
theorem gcells_len : ∀ l : List Dg, (gcells l).length = l.length * 8
  | [] => rfl
  | x :: l => by simp only [gcells, List.length_cons, gcells_len l]; omega
theorem gcells_get : ∀ {l : List Dg} {k : Nat} {d : Dg}, l[k]? = some d → (gcells l)[k * 8]? = some (.int .i64 d.what) ∧ (gcells l)[k * 8 + 1]? = some (.int .i64 d.n) ∧ (gcells l)[k * 8 + 2]? = some (.int .i64 d.some') ∧ (gcells l)[k * 8 + 3]? = some (.string d.E.f) ∧ (gcells l)[k * 8 + 4]? = some (.string d.E.t) ∧ (gcells l)[k * 8 + 5]? = some (.string d.E.l) ∧ (gcells l)[k * 8 + 6]? = some (.int .i64 d.E.tm) ∧ (gcells l)[k * 8 + 7]? = some d.E.v
  | x :: l, 0, d, h => by cases h; exact ⟨rfl, rfl, rfl, rfl, rfl, rfl, rfl, rfl⟩
  | x :: l, k + 1, d, h => by
    have := gcells_get (l := l) (k := k) (d := d) (by simpa using h)
    simp only [gcells, Nat.add_mul, Nat.one_mul]
    obtain ⟨a, b, c, d', e, f, g, i⟩ := this
    exact ⟨by simpa using a, by simpa using b, by simpa using c, by simpa using d', by simpa using e, by simpa using f, by simpa using g, by simpa using i⟩
/-- a row of deeds is read -/
structure RdrG (W : World) (v : Value) (l : List Dg) : Prop where
  row : Rdr W 8 v l.length (gcells l)
  each : ∀ d ∈ l, EdgAt W d.E ∧ InR d.E.tm
theorem RdrG.g {W W' : World} {v : Value} {l : List Dg} (h : RdrG W v l) (hg : G W W') : RdrG W' v l := ⟨h.row.g hg, fun d hd => ⟨(h.each d hd).1.g hg, (h.each d hd).2⟩⟩
theorem RdrG.shape {W : World} {v : Value} {l : List Dg} (h : RdrG W v l) : ∃ p c, v = .slice p l.length c := by
  obtain ⟨-, p, c, h, -⟩ := h.row; exact ⟨p, c, h⟩
theorem RdrG.at {W : World} {p : Option Addr} {n c : Nat} {l : List Dg} (h : Rdr W 8 (.slice p n c) n (gcells l)) (hn : n = l.length) {k : Nat} {d : Dg} (hk : l[k]? = some d) : ∃ b o, p = some ⟨b, o, none⟩ ∧ W.cell? ⟨b, o + k * 8, none⟩ = some (.int .i64 d.what) ∧ W.cell? ⟨b, o + k * 8 + 1, none⟩ = some (.int .i64 d.n) ∧ W.cell? ⟨b, o + k * 8 + 2, none⟩ = some (.int .i64 d.some') ∧ W.cell? ⟨b, o + k * 8 + 3, none⟩ = some (.string d.E.f) ∧ W.cell? ⟨b, o + k * 8 + 4, none⟩ = some (.string d.E.t) ∧ W.cell? ⟨b, o + k * 8 + 5, none⟩ = some (.string d.E.l) ∧ W.cell? ⟨b, o + k * 8 + 6, none⟩ = some (.int .i64 d.E.tm) ∧ W.cell? ⟨b, o + k * 8 + 7, none⟩ = some d.E.v := by
  have h0 : 0 < l.length := by have := (List.getElem?_eq_some_iff.1 hk).1; omega
  obtain ⟨b, o, hp, hc⟩ := h.one (by omega)
  obtain ⟨a0, a1, a2, a3, a4, a5, a6, a7⟩ := gcells_get hk
  exact ⟨b, o, hp, hc _ _ a0, by rw [Nat.add_assoc]; exact hc _ _ a1, by rw [Nat.add_assoc]; exact hc _ _ a2, by rw [Nat.add_assoc]; exact hc _ _ a3, by rw [Nat.add_assoc]; exact hc _ _ a4, by rw [Nat.add_assoc]; exact hc _ _ a5, by rw [Nat.add_assoc]; exact hc _ _ a6, by rw [Nat.add_assoc]; exact hc _ _ a7⟩
set_option maxHeartbeats 1000000 in
theorem gsize_any (l : List Dg) (v : Value) (w : World) (h : RdrG w v l) (hn : l.length ≤ 4398046511104) :
    Calls Try.prog 4 #[v] w fun e w' => ∃ n : Nat, e = .returned (.int .i64 n) ∧ n ≤ 4398046512104 * 2 ∧ (n ≤ 200 → l.length ≤ 200 ∧ ∀ d ∈ l, d.E.ps.length ≤ 200) ∧ w = w' := by
  obtain ⟨p, c, rfl⟩ := h.shape
  obtain ⟨m, hm⟩ : ∃ m, m = l.length := ⟨_, rfl⟩
  have H := Lib.hid h.each
  have HR := Lib.hid h.row
  have HM := Lib.hid hm
  rw [← hm] at hn HR ⊢
  clear h hm
  go_enter Try.func4, Try.ntmps4
  go_wp2_with fail
  go_loop [3, 4] (fun x i => ∃ k s : Nat, k ≤ m ∧ i = .int .i64 k ∧ x = .int .i64 s ∧ Hid (m ≤ s ∧ ∀ d ∈ l.take k, d.E.ps.length ≤ s) ∧ s ≤ 4398046512104 * 2) (fun _ i => m - (intOf i).toNat)
  case atStart => exact ⟨0, m, by omega, rfl, rfl, Lib.hid ⟨Nat.le_refl _, fun d hd => by simp at hd⟩, by omega⟩
  case round =>
    obtain ⟨k, s, hk, rfl, rfl, HS, hs⟩ := hrel
    by_cases hlt : k < m
    · have hkI : (k : Int) < (m : Int) := by omega
      by_cases h2 : s ≤ 200
      · have h2I : (s : Int) ≤ 200 := by omega
        obtain ⟨d, hd⟩ : ∃ d, l[k]? = some d := ⟨l[k]'(by have := HM.out; omega), List.getElem?_eq_getElem _⟩
        obtain ⟨b, o, rfl, -, -, -, -, -, -, -, c7⟩ := RdrG.at HR.out HM.out hd
        have hat := (H.out d (List.mem_of_getElem? hd)).1
        obtain ⟨-, vp, vc, hvv, -⟩ := id hat.rdr
        have hpn := hat.n
        rw [hvv] at c7
        have HT := Lib.hid (show ∀ x ∈ l.take (k + 1), x.E.ps.length ≤ s + d.E.ps.length from fun x hx => by
          rw [List.take_add_one, hd] at hx
          rcases List.mem_append.1 hx with e | e
          · have := HS.out.2 x e; omega
          · have : x = d := by simpa using e
            rw [this]; omega)
        have hms := HS.out.1
        obtain ⟨q, hq⟩ : ∃ q, q = d.E.ps.length := ⟨_, rfl⟩
        rw [← hq] at c7 HT hpn
        have HMS := Lib.hid hms
        clear hvv hq hat hd hms
        go_wp2_with fail
        go_round
        case rel => exact ⟨k + 1, s + q, by omega, by go_num, by go_num, Lib.hid ⟨by have := HMS.out; omega, HT.out⟩, by omega⟩
        case measure => simp [intOf]; omega
      · have h2I : ¬ (s : Int) ≤ 200 := by omega
        go_wp2_with fail
        go_ret
        exact ⟨s, rfl, hs, fun h => by omega, rfl⟩
    · have HF := Lib.hid (show m ≤ s ∧ ∀ d ∈ l, d.E.ps.length ≤ s by
        have h1 := HS.out
        rw [List.take_of_length_le (by have := HM.out; omega)] at h1
        exact h1)
      go_wp2_with fail
      go_ret
      exact ⟨s, rfl, hs, fun h => ⟨by have := HF.out.1; omega, fun d hd => by have := HF.out.2 d hd; omega⟩, rfl⟩
/-- the edges of the example -/
def exE (t : ByteArray) (m : Int) : Edg := ⟨⟨#[97]⟩, t, ⟨#[120]⟩, m, .slice none 0 0, []⟩
theorem exE_at (W : World) (t : ByteArray) (m : Int) (ht : t.size ≤ maxLen) : EdgAt W (exE t m) := ⟨Rdr.nil _ _ _ _, by show (0 : Nat) ≤ _; omega, (fun p hp => by cases hp), by show (1 : Nat) ≤ maxLen; unfold maxLen; omega, ht, by show (1 : Nat) ≤ maxLen; unfold maxLen; omega⟩
def o7b : Out := outE (exE ⟨#[98]⟩ 7)
def o5b : Out := outE (exE ⟨#[98]⟩ 5)
def o7a : Out := outE (exE ⟨#[97]⟩ 7)
theorem ex_c1 : ¬ kcmp (okey o7b) (okey o5b) < 0 := by decide
theorem ex_c2 : kcmp (okey o5b) (okey o7b) < 0 := by decide
theorem ex_c3 : ¬ kcmp (okey o7a) (okey o5b) < 0 := by decide
theorem ex_c4 : kcmp (okey o7a) (okey o7b) < 0 := of_decide_eq_true (by kernel_rfl)
theorem ex_ins1 : insO o7b [] = [o7b] := rfl
theorem ex_ins2 : insO o5b [o7b] = [o5b, o7b] := by rw [insO, if_pos ex_c2]
theorem ex_ins3 : insO o7a [o5b, o7b] = [o5b, o7a, o7b] := by rw [insO, if_neg ex_c3, insO, if_pos ex_c4]
theorem ex_h0 : hasO (okey o7b) [] = false := rfl
theorem ex_h1 : hasO (okey o5b) [o7b] = false := by decide
theorem ex_h2 : hasO (okey o7a) [o5b, o7b] = false := by kernel_rfl
theorem ex_h3 : hasO (okey o7a) [o5b, o7a, o7b] = true := by kernel_rfl
theorem ex_tw : tw 7 [o5b, o7a, o7b] = [o5b, o7a, o7b] := by rw [tw_yes (by show (5 : Int) ≤ 7; omega), tw_yes (by show (7 : Int) ≤ 7; omega), tw_yes (by show (7 : Int) ≤ 7; omega)]; rfl
theorem ex_ck (t : ByteArray) (m : Int) (h : (t = ⟨#[98]⟩ ∧ (m = 7 ∨ m = 5)) ∨ (t = ⟨#[97]⟩ ∧ m = 7)) : checkE (exE t m) = 0 := by
  rcases h with ⟨rfl, rfl | rfl⟩ | ⟨rfl, rfl⟩ <;> decide
end Go.Proofs.Ytahdodijpmkddaa

set_option maxRecDepth 10000
namespace Go.Proofs.Ytahdodijpmkddaa
set_option linter.unusedVariables false
set_option linter.unusedSimpArgs false
open Go.RowKit Go.Shelf
attribute [local go_sem] Oper.semAt_some

/-- a buffer in blocks that are new since w0 -/
structure BNew (w0 : World) (S P : Nat → Prop) (W : World) (B : Nat) (s : List Out) (p : Bp) : Prop where
  b : BufIn S P W B s p
  new : ∀ k, S k ∨ P k → w0.heap.size ≤ k
  g : G w0 W
theorem BNew.go {w0 W W' : World} {S P : Nat → Prop} {B : Nat} {s : List Out} {p : Bp} (h : BNew w0 S P W B s p) (hg : G W W') : BNew w0 S P W' B s p := ⟨h.b.g hg, h.new, h.g.trans hg⟩
theorem put_ok {w0 w : World} {S P : Nat → Prop} {B : Nat} {s : List Out} {p : Bp} (h : BNew w0 S P w B s p) (E : Edg) (hE : EdgAt w E) (ht : InR E.tm) (hn : s.length ≤ 100000) (hnp : E.ps.length ≤ 1000000) (hES : ∀ g, E.v.ownBlock = some g → ¬ S g) (hc : checkE E = 0) (hh : hasO (okey (outE E)) s = false) :
    Calls Try.prog 14 #[.pointer (some ⟨B, 0, none⟩), ev E] w fun e w' => e = .returned (.int .i64 0) ∧ ∃ S' P' p', BNew w0 S' P' w' B (insO (outE E) s) p' := by
  refine (bput_any S P B s p E w h.b hE ht hn hnp hES).mono ?_
  rintro e w' (⟨h1, -⟩ | ⟨-, h1, -⟩ | ⟨-, -, rfl, S', P', p', hb, h1, h2, h3, hf⟩)
  · exact absurd hc h1
  · rw [hh] at h1; cases h1
  · have hz := h.g.size
    refine ⟨rfl, S', P', p', hb, fun k hk => ?_, ((h.g.fr (fun q => w0.heap.size ≤ q)).trans hf (fun q _ e => h.new q (.inl e))).g (fun _ h => h)⟩
    rcases hk with e | e
    · rcases h1 k e with e2 | e2
      · exact h.new k (.inl e2)
      · omega
    · rcases h2 k e with e2 | e2
      · exact h.new k (.inr e2)
      · omega
theorem put_twice {w0 w : World} {S P : Nat → Prop} {B : Nat} {s : List Out} {p : Bp} (h : BNew w0 S P w B s p) (E : Edg) (hE : EdgAt w E) (ht : InR E.tm) (hn : s.length ≤ 100000) (hnp : E.ps.length ≤ 1000000) (hES : ∀ g, E.v.ownBlock = some g → ¬ S g) (hc : checkE E = 0) (hh : hasO (okey (outE E)) s = true) :
    Calls Try.prog 14 #[.pointer (some ⟨B, 0, none⟩), ev E] w fun e w' => e = .returned (.int .i64 9) ∧ G w w' := by
  refine (bput_any S P B s p E w h.b hE ht hn hnp hES).mono ?_
  rintro e w' (⟨h1, -⟩ | ⟨-, -, rfl, hg⟩ | ⟨-, h1, -⟩)
  · exact absurd hc h1
  · exact ⟨rfl, hg⟩
  · rw [hh] at h1; cases h1
theorem exNo (t : ByteArray) (m : Int) (S : Nat → Prop) : ∀ g, (exE t m).v.ownBlock = some g → ¬ S g := fun g hg => by cases hg
theorem three_of : ∀ {L : List Edg} {x y z : Out}, L.map outE = [x, y, z] → ∃ A C D, L = [A, C, D] ∧ outE A = x ∧ outE C = y ∧ outE D = z
  | [], _, _, _, h => by simp at h
  | [a], _, _, _, h => by simp at h
  | [a, b], _, _, _, h => by simp at h
  | [a, b, c], _, _, _, h => by
    simp only [List.map_cons, List.map_nil, List.cons.injEq, and_true] at h
    exact ⟨a, b, c, rfl, h.1, h.2.1, h.2.2⟩
  | a :: b :: c :: d :: l, _, _, _, h => by simp at h
set_option maxHeartbeats 4000000 in
theorem bawake_any (w : World) : Calls Try.prog 5 #[] w fun e w' => e = .returned (.bool true) ∧ G w w' := by
  have hin7 : InR 7 := by unfold InR; omega
  have hin5 : InR 5 := by unfold InR; omega
  have s1 : (⟨#[98]⟩ : ByteArray).size ≤ maxLen := by show (1 : Nat) ≤ maxLen; unfold maxLen; omega
  have s2 : (⟨#[97]⟩ : ByteArray).size ≤ maxLen := by show (1 : Nat) ≤ maxLen; unfold maxLen; omega
  have HI := Lib.hid (And.intro hin7 (And.intro hin5 (And.intro s1 s2)))
  clear hin7 hin5 s1 s2
  go_enter Try.func5, Try.ntmps5
  go_wp2_with fail
  refine (bnew_any w).mono ?_
  rintro e w1 ⟨B, S0, p0, rfl, hb0, hS0, hg0⟩
  have H0 : Hid (BNew w S0 (fun _ => False) w1 B [] p0) := Lib.hid ⟨hb0, fun k hk => hk.elim (hS0 k) (fun e => e.elim), hg0⟩
  clear hb0 hS0 hg0
  go_wp2_with fail
  refine (edge_any _ _ _ _).mono ?_
  rintro e w2 ⟨rfl, hg⟩
  have H1 := Lib.hid (put_ok (H0.out.go hg) (exE ⟨#[98]⟩ 7) (exE_at _ _ _ HI.out.2.2.1) HI.out.1 (by simp) (by show (0 : Nat) ≤ _; omega) (exNo _ _ _) (ex_ck _ _ (.inl ⟨rfl, .inl rfl⟩)) ex_h0)
  clear hg H0
  go_wp2_with fail
  refine H1.out.mono ?_
  rintro e w3 ⟨rfl, S1, P1, p1, hb⟩
  have H0 := Lib.hid hb
  clear hb H1
  go_wp2_with fail
  refine (edge_any _ _ _ _).mono ?_
  rintro e w4 ⟨rfl, hg⟩
  have H1 := Lib.hid (put_ok (H0.out.go hg) (exE ⟨#[98]⟩ 5) (exE_at _ _ _ HI.out.2.2.1) HI.out.2.1 (by show (1 : Nat) ≤ _; omega) (by show (0 : Nat) ≤ _; omega) (exNo _ _ _) (ex_ck _ _ (.inl ⟨rfl, .inr rfl⟩)) ex_h1)
  clear hg H0
  go_wp2_with fail
  refine H1.out.mono ?_
  rintro e w5 ⟨rfl, S2, P2, p2, hb⟩
  rw [show insO (outE (exE ⟨#[98]⟩ 5)) (insO (outE (exE ⟨#[98]⟩ 7)) []) = [o5b, o7b] from ex_ins2] at hb
  have H0 := Lib.hid hb
  clear hb H1
  go_wp2_with fail
  refine (edge_any _ _ _ _).mono ?_
  rintro e w6 ⟨rfl, hg⟩
  have H1 := Lib.hid (put_ok (H0.out.go hg) (exE ⟨#[97]⟩ 7) (exE_at _ _ _ HI.out.2.2.2) HI.out.1 (by show (2 : Nat) ≤ _; omega) (by show (0 : Nat) ≤ _; omega) (exNo _ _ _) (ex_ck _ _ (.inr ⟨rfl, rfl⟩)) ex_h2)
  clear hg H0
  go_wp2_with fail
  refine H1.out.mono ?_
  rintro e w7 ⟨rfl, S3, P3, p3, hb⟩
  rw [show insO (outE (exE ⟨#[97]⟩ 7)) [o5b, o7b] = [o5b, o7a, o7b] from ex_ins3] at hb
  have H0 := Lib.hid hb
  clear hb H1
  go_wp2_with fail
  refine (edge_any _ _ _ _).mono ?_
  rintro e w8 ⟨rfl, hg⟩
  have H1 := Lib.hid (put_twice (H0.out.go hg) (exE ⟨#[97]⟩ 7) (exE_at _ _ _ HI.out.2.2.2) HI.out.1 (by show (3 : Nat) ≤ _; omega) (by show (0 : Nat) ≤ _; omega) (exNo _ _ _) (ex_ck _ _ (.inr ⟨rfl, rfl⟩)) ex_h3)
  have H2 := Lib.hid (H0.out.go hg)
  clear hg H0
  go_wp2_with fail
  refine H1.out.mono ?_
  rintro e w9 ⟨rfl, hg⟩
  have H0 := Lib.hid (H2.out.go hg)
  clear hg H1 H2
  go_wp2_with fail
  refine (lupto_any S3 P3 B _ p3 7 9 w9 H0.out.b (by show (3 : Nat) ≤ _; omega) (fun o ho => by
    simp only [List.mem_cons, List.not_mem_nil, or_false] at ho
    rcases ho with rfl | rfl | rfl <;> (show (0 : Nat) ≤ 1000000; omega)) (by omega)).mono ?_
  rintro e W10 ⟨u, L, rfl, hown, hmo, hL, -, ⟨p4, hnow⟩, hf⟩
  have hLm : L.map outE = [o5b, o7a, o7b] := by rw [hmo, ex_tw]; rfl
  have hup : upN 7 9 [o5b, o7a, o7b] = 3 := by unfold upN; rw [ex_tw]; rfl
  rw [hup] at hnow
  have HLN := Lib.hid (blen_any _ _ _ _ _ _ hnow (by show (0 : Nat) ≤ _; omega))
  have hgW : G w W10 := ((H0.out.g.fr (fun q => w.heap.size ≤ q)).trans hf (fun q _ e => H0.out.new q (.inl e))).g (fun _ h => h)
  obtain ⟨A, C, D, rfl, hA, hC, hD⟩ := three_of hLm
  have tA : A.tm = 5 := congrArg (fun o : Out => o.2.2.2.1) hA
  have tC : C.t = ⟨#[97]⟩ := congrArg (fun o : Out => o.2.1) hC
  have tD : D.t = ⟨#[98]⟩ := congrArg (fun o : Out => o.2.1) hD
  have hrd := rdr_of_owns hown
  obtain ⟨lp, lc, rfl⟩ := ownsRow_shape hown
  obtain ⟨bb, oo, rfl, -, -, -, a3, -⟩ := cellsAt5 (L := [A, C, D]) hrd rfl (show 0 < 3 by omega)
  obtain ⟨bb', oo', he, -, a1, -, -, -⟩ := cellsAt5 (L := [A, C, D]) hrd rfl (show 1 < 3 by omega)
  cases he
  obtain ⟨bb'', oo'', he, -, b1, -, -, -⟩ := cellsAt5 (L := [A, C, D]) hrd rfl (show 2 < 3 by omega)
  cases he
  rw [show eat [A, C, D] 0 = A from rfl, tA] at a3
  rw [show eat [A, C, D] 1 = C from rfl, tC] at a1
  rw [show eat [A, C, D] 2 = D from rfl, tD] at b1
  rw [show oo + 0 * 5 + 3 = oo + 3 by omega] at a3
  rw [show oo + 1 * 5 + 1 = oo + 5 + 1 by omega] at a1
  rw [show oo + 2 * 5 + 1 = oo + 10 + 1 by omega] at b1
  have HGW := Lib.hid hgW
  clear hown hmo hL hnow hf hLm hup hA hC hD tA tC tD hrd H0 hgW HI
  simp only [List.length_cons, List.length_nil]
  go_wp2_with fail
  refine HLN.out.mono ?_
  rintro e W11 ⟨rfl, hg⟩
  have hgE := HGW.out.trans hg
  clear HLN hg a3 a1 b1
  go_wp2_with fail
  go_ret
  exact ⟨rfl, hgE⟩
end Go.Proofs.Ytahdodijpmkddaa

set_option maxRecDepth 10000
namespace Go.Proofs.Ytahdodijpmkddaa
set_option linter.unusedVariables false
set_option linter.unusedSimpArgs false
open Go.RowKit Go.Shelf Go.ChangeShapes Go.WideShapes Go.Deep

/-- an edge's time is an int -/
theorem open_tm {H : Type} {enc : TypeId × Value → H} {W : World} {sp : Nat → Bool} {held : Bool} {fuel : Nat} {E : Edg} {x : DataW H × List MemPlace} (h : DataW.trod enc Try.prog W 0 sp held fuel 33 (ecells E) = some x) : InR E.tm := by
  obtain ⟨ys, n, -, hxx, hl, hyz, hf⟩ := DataW.trod_struct Try.underlying33 h
  have h3 : DataW.trod enc Try.prog W 0 sp held n 3 (((ecells E).drop 3).take (Try.prog.cellsOf 3)) = ys[3]? := hf 3 _ rfl
  rw [show Try.prog.cellsOf 3 = 1 from by kernel_rfl] at h3
  simp only [ecells, List.drop_zero, List.drop_succ_cons, List.take_succ_cons, List.take_zero] at h3
  have hz : ys.length = 5 := hyz
  rw [List.getElem?_eq_getElem (show 3 < ys.length by omega)] at h3
  obtain ⟨k, g3, -, gk⟩ := DataW.trod_int Try.underlying3 h3
  cases g3
  have hmx : IntKind.i64.max = 9223372036854775807 := by decide
  have hmn : IntKind.i64.min = -9223372036854775808 := by decide
  simp only [Lit.wf, hmx, hmn, Bool.and_eq_true, decide_eq_true_eq] at gk
  exact gk
theorem open_dg {H : Type} {enc : TypeId × Value → H} {W : World} {sp : Nat → Bool} {held : Bool} {fuel : Nat} {cs : List Value} {x : DataW H × List MemPlace} (h : DataW.trod enc Try.prog W 0 sp held fuel 35 cs = some x) :
    ∃ d : Dg, cs = [.int .i64 d.what, .int .i64 d.n, .int .i64 d.some', .string d.E.f, .string d.E.t, .string d.E.l, .int .i64 d.E.tm, d.E.v] ∧ (Rdr W 4 d.E.v d.E.ps.length (pcells d.E.ps) ∧ PSz d.E.ps ∧ (d.E.f.size ≤ maxLen ∧ d.E.t.size ≤ maxLen ∧ d.E.l.size ≤ maxLen) ∧ InR d.E.tm) ∧ (∀ n, (∀ m ∈ x.1.weights Try.prog 35, m ≤ n) → d.E.ps.length * 48 ≤ n) := by
  obtain ⟨ys, n, -, hxx, hl, hyz, hf⟩ := DataW.trod_struct Try.underlying35 h
  rw [show Try.prog.cellsOf 35 = 8 from by kernel_rfl] at hl
  obtain ⟨c0, c1, c2, c3, c4, c5, c6, c7, rfl⟩ : ∃ c0 c1 c2 c3 c4 c5 c6 c7, cs = [c0, c1, c2, c3, c4, c5, c6, c7] := by
    match cs, hl with
    | [a, b, c, d, e, f, g, h], _ => exact ⟨a, b, c, d, e, f, g, h, rfl⟩
  have h0 : DataW.trod enc Try.prog W 0 sp held n 3 (([c0, c1, c2, c3, c4, c5, c6, c7].drop 0).take (Try.prog.cellsOf 3)) = ys[0]? := hf 0 _ rfl
  have h1 : DataW.trod enc Try.prog W 0 sp held n 3 (([c0, c1, c2, c3, c4, c5, c6, c7].drop 1).take (Try.prog.cellsOf 3)) = ys[1]? := hf 1 _ rfl
  have h2 : DataW.trod enc Try.prog W 0 sp held n 3 (([c0, c1, c2, c3, c4, c5, c6, c7].drop 2).take (Try.prog.cellsOf 3)) = ys[2]? := hf 2 _ rfl
  have h3 : DataW.trod enc Try.prog W 0 sp held n 33 (([c0, c1, c2, c3, c4, c5, c6, c7].drop 3).take (Try.prog.cellsOf 33)) = ys[3]? := hf 3 _ rfl
  rw [show Try.prog.cellsOf 3 = 1 from by kernel_rfl] at h0 h1 h2
  rw [show Try.prog.cellsOf 33 = 5 from by kernel_rfl] at h3
  simp only [List.drop_zero, List.drop_succ_cons, List.take_succ_cons, List.take_zero] at h0 h1 h2 h3
  have hz : ys.length = 4 := hyz
  obtain ⟨y0, y1, y2, y3, rfl⟩ : ∃ y0 y1 y2 y3, ys = [y0, y1, y2, y3] := by
    match ys, hz with
    | [a, b, c, d], _ => exact ⟨a, b, c, d, rfl⟩
  obtain ⟨k, g0, gx0, -⟩ := DataW.trod_int Try.underlying3 h0
  obtain ⟨m, g1, gx1, -⟩ := DataW.trod_int Try.underlying3 h1
  obtain ⟨p, g2, gx2, -⟩ := DataW.trod_int Try.underlying3 h2
  obtain ⟨E, he, hr, hk, hzs, hw⟩ := open_edge h3
  rw [he] at h3
  have ht := open_tm h3
  cases g0; cases g1; cases g2
  simp only [ecells, List.cons.injEq, and_true] at he
  obtain ⟨rfl, rfl, rfl, rfl, rfl⟩ := he
  refine ⟨⟨k, m, p, E⟩, rfl, ⟨hr, hk, hzs, ht⟩, fun N hN => hw N (fun q hq => hN q ?_)⟩
  subst hxx
  simp only [DataW.weights, Try.underlying35, List.map_cons, List.map_nil, DataW.weightsEach, List.mem_append]
  exact .inr (.inr (.inr (.inl hq)))
/-- deeds -/
theorem open_dgs {H : Type} {enc : TypeId × Value → H} {W : World} {sp : Nat → Bool} {held : Bool} {fuel : Nat} {v : Value} {x : DataW H × List MemPlace} (h : DataW.trod enc Try.prog W 0 sp held fuel 22 [v] = some x) :
    ∃ l : List Dg, Rdr W 8 v l.length (gcells l) ∧ (∀ d ∈ l, Rdr W 4 d.E.v d.E.ps.length (pcells d.E.ps) ∧ PSz d.E.ps ∧ (d.E.f.size ≤ maxLen ∧ d.E.t.size ≤ maxLen ∧ d.E.l.size ≤ maxLen) ∧ InR d.E.tm) ∧ (∀ n, (∀ m ∈ x.1.weights Try.prog 22, m ≤ n) → l.length * 104 ≤ n ∧ ∀ d ∈ l, d.E.ps.length * 48 ≤ n) := by
  rcases Deep.open_slice Try.underlying22 h with ⟨h1, -⟩ | ⟨a, len, cap, m, n, D, Pl, h1, -, hl, hm, hz, hxx, hx⟩
  · cases h1
    exact ⟨[], Rdr.nil _ _ _ _, by simp, by simp⟩
  · cases h1
    have hle : len ≤ m := by rw [hz]; split <;> omega
    have hc3 : Try.prog.cellsOf 35 = 8 := by kernel_rfl
    rw [hc3] at hx
    have each : ∀ i, ∃ d : Dg, i < len → ((Rdr W 4 d.E.v d.E.ps.length (pcells d.E.ps) ∧ PSz d.E.ps ∧ (d.E.f.size ≤ maxLen ∧ d.E.t.size ≤ maxLen ∧ d.E.l.size ≤ maxLen) ∧ InR d.E.tm) ∧ (∀ n, (∀ m ∈ (D i).weights Try.prog 35, m ≤ n) → d.E.ps.length * 48 ≤ n)) ∧
        W.cell? (a.add (i * 8)) = some (.int .i64 d.what) ∧ W.cell? (a.add (i * 8 + 1)) = some (.int .i64 d.n) ∧ W.cell? (a.add (i * 8 + 2)) = some (.int .i64 d.some') ∧ W.cell? (a.add (i * 8 + 3)) = some (.string d.E.f) ∧ W.cell? (a.add (i * 8 + 4)) = some (.string d.E.t) ∧ W.cell? (a.add (i * 8 + 5)) = some (.string d.E.l) ∧ W.cell? (a.add (i * 8 + 6)) = some (.int .i64 d.E.tm) ∧ W.cell? (a.add (i * 8 + 7)) = some d.E.v := by
      intro i
      by_cases hi : i < len
      · obtain ⟨cs', hcs, ht⟩ := hx i (by omega)
        obtain ⟨d, rfl, hd⟩ := open_dg ht
        obtain ⟨-, -, hat⟩ := World.cells?_some hcs
        have a0 := hat 0 (by omega)
        have a1 := hat 1 (by omega)
        have a2 := hat 2 (by omega)
        have a3 := hat 3 (by omega)
        have a4 := hat 4 (by omega)
        have a5 := hat 5 (by omega)
        have a6 := hat 6 (by omega)
        have a7 := hat 7 (by omega)
        rw [Deep.add_add] at a0 a1 a2 a3 a4 a5 a6 a7
        exact ⟨d, fun _ => ⟨hd, a0, a1, a2, a3, a4, a5, a6, a7⟩⟩
      · exact ⟨⟨0, 0, 0, zeroE⟩, fun h => absurd h hi⟩
    obtain ⟨Lf, hLf⟩ := Classical.axiomOfChoice each
    have e1 : ((List.range len).map Lf).length = len := by simp
    refine ⟨(List.range len).map Lf, ⟨by rw [gcells_len], some a, cap, by rw [e1], fun h0 => ?_⟩, ?_, fun N hN => ⟨?_, ?_⟩⟩
    · rw [e1] at h0
      have ha := spot_none (hLf 0 h0).2.1
      rw [show a.add (0 * 8) = a from by simp [Addr.add]] at ha
      refine ⟨a.block, a.off, by rw [← ha], fun j u hu => ?_⟩
      have hj : j < len * 8 := by
        have := (List.getElem?_eq_some_iff.1 hu).1
        rwa [gcells_len, e1] at this
      have hi : j / 8 < len := by omega
      obtain ⟨-, b0, b1, b2, b3, b4, b5, b6, b7⟩ := hLf (j / 8) hi
      obtain ⟨d0, d1, d2, d3, d4, d5, d6, d7⟩ := gcells_get (l := (List.range len).map Lf) (k := j / 8) (d := Lf (j / 8)) (by simp [hi])
      rw [ha, addr_add] at b0 b1 b2 b3 b4 b5 b6 b7
      rcases (by omega : j = j / 8 * 8 ∨ j = j / 8 * 8 + 1 ∨ j = j / 8 * 8 + 2 ∨ j = j / 8 * 8 + 3 ∨ j = j / 8 * 8 + 4 ∨ j = j / 8 * 8 + 5 ∨ j = j / 8 * 8 + 6 ∨ j = j / 8 * 8 + 7) with e | e | e | e | e | e | e | e
      · rw [e] at hu ⊢; rw [d0] at hu; cases hu; exact b0
      · rw [e] at hu ⊢; rw [d1] at hu; cases hu; exact b1
      · rw [e] at hu ⊢; rw [d2] at hu; cases hu; exact b2
      · rw [e] at hu ⊢; rw [d3] at hu; cases hu; exact b3
      · rw [e] at hu ⊢; rw [d4] at hu; cases hu; exact b4
      · rw [e] at hu ⊢; rw [d5] at hu; cases hu; exact b5
      · rw [e] at hu ⊢; rw [d6] at hu; cases hu; exact b6
      · rw [e] at hu ⊢; rw [d7] at hu; cases hu; exact b7
    · intro d hd
      simp at hd
      obtain ⟨i, hi, rfl⟩ := hd
      exact (hLf i hi).1.1
    · subst hxx
      have hw := hN (((((List.range len).map D).length) + ((List.range (m - len)).map fun j => D (len + j)).length) * Try.prog.bytesOf 35) (by simp [DataW.weights, Try.underlying22])
      rw [show Try.prog.bytesOf 35 = 104 from by kernel_rfl] at hw
      refine Nat.le_trans (Nat.mul_le_mul_right _ ?_) hw
      simp
    · intro d hd
      simp at hd
      obtain ⟨i, hi, rfl⟩ := hd
      refine (hLf i hi).1.2 N (fun q hq => hN q ?_)
      subst hxx
      simp only [DataW.weights, Try.underlying22]
      refine List.mem_cons_of_mem _ (List.mem_append_left _ (weightsAll_mem (d := D i) ?_ hq))
      simp
      exact ⟨i, hi, rfl⟩
end Go.Proofs.Ytahdodijpmkddaa
