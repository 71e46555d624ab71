/- laid together: RelU RelAw -/
import Derived.Test.YthhmmjpgefinmaaRelV
set_option maxRecDepth 10000
namespace Go.Proofs.Ythhmmjpgefinmaa
set_option linter.unusedVariables false
set_option linter.unusedSimpArgs false
open Go.RowKit Go.Shelf
attribute [local go_sem] Oper.semAt_some

theorem edge_any (f t : ByteArray) (m : Int) (w : World) : Calls Try.prog 23 #[.string f, .string t, .int .i64 m] w fun e w' => e = .returned (.agg #[.string f, .string t, .string ⟨#[120]⟩, .int .i64 m, .slice none 0 0]) ∧ G w w' := by
  have hb := alloc_new w (.cells #[.string ⟨#[]⟩, .string ⟨#[]⟩, .string ⟨#[]⟩, .int .i64 0, .slice none 0 0] 51)
  have hg : G w (w.alloc (.cells #[.string ⟨#[]⟩, .string ⟨#[]⟩, .string ⟨#[]⟩, .int .i64 0, .slice none 0 0] 51)) := (G.refl w).alloc _
  go_enter Try.func23, Try.ntmps23
  go_upto_region 1 with fail
  generalize (w.alloc (.cells #[.string ⟨#[]⟩, .string ⟨#[]⟩, .string ⟨#[]⟩, .int .i64 0, .slice none 0 0] 51)) = W1 at hb hg ⊢
  obtain ⟨c0, c1, c2, c3, c4⟩ := cells5 hb
  have y0 : W1.frozen? ⟨w.heap.size, 0, none⟩ = false := by unfold World.frozen?; rw [hb]; simp
  have y1 : W1.frozen? ⟨w.heap.size, 1, none⟩ = false := by unfold World.frozen?; rw [hb]; simp
  have y2 : W1.frozen? ⟨w.heap.size, 2, none⟩ = false := by unfold World.frozen?; rw [hb]; simp
  have y3 : W1.frozen? ⟨w.heap.size, 3, none⟩ = false := by unfold World.frozen?; rw [hb]; simp
  have y5 : W1.frozen? ⟨w.heap.size, 4, none⟩ = false := by unfold World.frozen?; rw [hb]; simp
  obtain ⟨hgF, hr8⟩ := set5 hg (Nat.le_refl _) hb (.string f) (.string t) (.string ⟨#[120]⟩) (.int .i64 m) (.slice none 0 0)
  obtain ⟨q0, q1, q2, q3, q4⟩ := cells5 hr8
  go_wp2_with fail
  refine bodyPost_ret (v := .agg #[.string f, .string t, .string ⟨#[120]⟩, .int .i64 m, .slice none 0 0]) ?_ rfl ⟨rfl, hgF⟩
  simp [results, Try.results23, go_sem, q0, q1, q2, q3, q4]
/-- what is put, if it may be -/
def putO (s : List Out) (E : Edg) : List Out := if checkE E = 0 ∧ hasO (okey (outE E)) s = false then insO (outE E) s else s
def fillO (L : List Edg) : List Out := L.foldl putO []
theorem putO_str {s : List Out} {E : Edg} (h : OStr s) : OStr (putO s E) := by
  unfold putO; split
  · rename_i h2; exact insO_str h h2.2
  · exact h
theorem putO_len (s : List Out) (E : Edg) : (putO s E).length ≤ s.length + 1 := by
  unfold putO; split
  · rw [insO_len]; exact Nat.le_refl _
  · omega
theorem putO_mem {s : List Out} {E : Edg} {o : Out} (h : o ∈ putO s E) : o ∈ s ∨ (o = outE E ∧ checkE E = 0) := by
  unfold putO at h; split at h
  · rename_i h2; rcases insO_mem.1 h with e | e
    · exact .inr ⟨e, h2.1⟩
    · exact .inl e
  · exact .inl h
theorem foldO (s : List Out) : ∀ {L : List Edg}, (OStr s → OStr (L.foldl putO s)) ∧ (L.foldl putO s).length ≤ s.length + L.length ∧ ∀ o ∈ L.foldl putO s, o ∈ s ∨ ∃ E ∈ L, o = outE E ∧ checkE E = 0
  | [] => ⟨id, by simp, fun o ho => .inl ho⟩
  | E :: L => by
    obtain ⟨h1, h2, h3⟩ := foldO (putO s E) (L := L)
    have h4 := putO_len s E
    refine ⟨fun h => h1 (putO_str h), by rw [List.foldl_cons, List.length_cons]; omega, fun o ho => ?_⟩
    rcases h3 o ho with e | ⟨E', e1, e2⟩
    · rcases putO_mem e with e2 | e2
      · exact .inl e2
      · exact .inr ⟨E, List.mem_cons_self .., e2⟩
    · exact .inr ⟨E', List.mem_cons_of_mem _ e1, e2⟩
theorem fillO_str (L : List Edg) : OStr (fillO L) := (foldO [] (L := L)).1 List.Pairwise.nil
theorem fillO_len (L : List Edg) : (fillO L).length ≤ L.length := by have := (foldO [] (L := L)).2.1; simpa [fillO] using this
theorem fillO_mem {L : List Edg} {o : Out} (h : o ∈ fillO L) : ∃ E ∈ L, o = outE E ∧ checkE E = 0 := by
  rcases (foldO [] (L := L)).2.2 o h with e | e
  · cases e
  · exact e
def FillOut (L : List Edg) (w : World) (e : Ending) (w' : World) : Prop :=
  ∃ B S P, e = .returned (.pointer (some ⟨B, 0, none⟩)) ∧ BufNow S P B (fillO L) w' ∧ (∀ k, S k ∨ P k → w.heap.size ≤ k) ∧ G w w'
/-- edges that may be put -/
def Puts (L : List Edg) : Prop := L.length ≤ 1000 ∧ ∀ E ∈ L, InR E.tm ∧ E.ps.length ≤ 1000
theorem Puts.each {L : List Edg} (h : Puts L) : ∀ o ∈ fillO L, o.2.2.2.2.length ≤ 1000000 := fun o ho => by
  obtain ⟨E, h1, rfl, -⟩ := fillO_mem ho
  have := (h.2 E h1).2
  show E.ps.length ≤ _
  omega
set_option maxHeartbeats 4000000 in
theorem filled_any (L : List Edg) (v : Value) (w : World) (h : RdrE w v L) (hP : Puts L) : Calls Try.prog 15 #[v] w (FillOut L w) := by
  obtain ⟨p, c, rfl⟩ := h.shape
  have HH := Lib.hid h
  have HPU := Lib.hid hP
  have hn := hP.1
  obtain ⟨m, hm⟩ : ∃ m, m = L.length := ⟨_, rfl⟩
  rw [← hm] at hn HH ⊢
  have HM := Lib.hid hm
  have HLT : Hid (∀ E ∈ L, 0 < E.ps.length → ∀ g, E.v.ownBlock = some g → g < w.heap.size) := Lib.hid (fun E hE h0 => (h.each E hE).rdr.lt h0 (by omega))
  clear h hP hm
  go_enter Try.func15, Try.ntmps15
  go_wp2_with fail
  refine (bnew_any w).mono ?_
  rintro e w1 ⟨B, S0, p0, rfl, hb0, hS0, hg0⟩
  have HX0 : Hid (BufNow S0 (fun _ => False) B [] w1 ∧ (∀ k, S0 k ∨ (fun _ => False) k → w.heap.size ≤ k) ∧ G w w1) := Lib.hid ⟨⟨p0, hb0⟩, fun k hk => hk.elim (hS0 k) False.elim, hg0⟩
  clear hb0 hS0 hg0
  go_wp2_with fail
  go_loopw [4] (fun i wr => ∃ (k : Nat) (S P : Nat → Prop), k ≤ m ∧ i = .int .i64 k ∧ Hid (BufNow S P B ((L.take k).foldl putO []) wr ∧ (∀ k, S k ∨ P k → w.heap.size ≤ k) ∧ G w wr)) (fun i _ => m - (intOf i).toNat)
  case atStart => exact ⟨0, S0, _, by omega, rfl, HX0⟩
  case round =>
    clear HX0
    obtain ⟨k, S, P, hk, rfl, HX⟩ := hrel
    by_cases hlt : k < m
    · have hkI : (k : Int) < (m : Int) := by omega
      obtain ⟨E, hE⟩ : ∃ E, L[k]? = some E := ⟨L[k]'(by have := HM.out; omega), List.getElem?_eq_getElem _⟩
      have hmem := List.mem_of_getElem? hE
      obtain ⟨⟨q, hb⟩, hnew, hg⟩ := HX.out
      have hrd := HH.out.g hg
      rw [HM.out] at hrd
      obtain ⟨bb, o, rfl, c0, c1, c2, c3, c4⟩ := RdrE.at hrd hE
      have hEA := hrd.each E hmem
      obtain ⟨pe, ne, ce, hev⟩ := hEA.isE
      have hsl : ((L.take k).foldl putO []).length ≤ k := by
        have h1 := (foldO [] (L := L.take k)).2.1
        rw [List.length_take] at h1
        simp at h1; omega
      have HPT := Lib.hid (bput_any S P B _ q E wr hb hEA (HPU.out.2 E hmem).1 (by omega) (by have := (HPU.out.2 E hmem).2; omega) (fun h0 g hg2 hs => by
        have h1 := HLT.out E hmem h0 g hg2
        have h2 := hnew g (.inl hs)
        omega))
      have hst : (L.take (k + 1)).foldl putO [] = putO ((L.take k).foldl putO []) E := by
        rw [List.take_add_one, hE, List.foldl_append]; rfl
      have HST : Hid (∀ e w', PutOut S P B ((L.take k).foldl putO []) E wr e w' → (∃ n : Int, e = .returned (.int .i64 n)) ∧ ∃ S P, BufNow S P B ((L.take (k + 1)).foldl putO []) w' ∧ (∀ k, S k ∨ P k → w.heap.size ≤ k) ∧ G w w') := Lib.hid (fun e w' hh => by
        have hz := hg.size
        rw [hst]
        rcases hh with ⟨h1, h2, h3⟩ | ⟨h1, h2, h3, h4⟩ | ⟨h1, h2, h3, S', P', p', h4, h5, h6, h7, h8⟩
        · refine ⟨⟨_, h2⟩, S, P, ?_, hnew, hg.trans h3⟩
          unfold putO
          rw [if_neg (fun hh => h1 hh.1)]
          exact ⟨q, hb.g h3⟩
        · refine ⟨⟨_, h3⟩, S, P, ?_, hnew, hg.trans h4⟩
          unfold putO
          rw [if_neg (fun hh => absurd (h2.symm.trans hh.2) (by simp))]
          exact ⟨q, hb.g h4⟩
        · refine ⟨⟨_, h3⟩, S', P', ?_, fun k hk => ?_, g_of_fr hg h8 (fun k hk => hnew k (.inl hk))⟩
          · unfold putO
            rw [if_pos ⟨h1, h2⟩]
            exact ⟨p', h4⟩
          · rcases hk with e | e
            · exact (h5 k e).elim (fun e => hnew k (.inl e)) (fun e => by omega)
            · exact (h6 k e).elim (fun e => hnew k (.inr e)) (fun e => by omega))
      rw [show ev E = .agg #[.string E.f, .string E.t, .string E.l, .int .i64 E.tm, .slice pe ne ce] by unfold ev; rw [hev]] at HPT
      rw [hev] at c4
      clear hE hmem hb hnew hg hrd hEA hev hst HX hsl
      go_wp2_with fail
      refine HPT.out.mono ?_
      intro e w' hh
      obtain ⟨⟨n, rfl⟩, S2, P2, hx⟩ := HST.out e w' hh
      have HX := Lib.hid hx
      clear hh hx HPT HST c0 c1 c2 c3 c4
      go_wp2_with fail
      go_roundw
      case rel => exact ⟨k + 1, S2, P2, by omega, by go_num, HX⟩
      case measure => simp [intOf]; omega
    · have HE : Hid (FillOut L w (.returned (.pointer (some ⟨B, 0, none⟩))) wr) := Lib.hid (by
        obtain ⟨h1, h2, h3⟩ := HX.out
        rw [List.take_of_length_le (by have := HM.out; omega)] at h1
        exact ⟨B, S, P, rfl, h1, h2, h3⟩)
      go_wp2_with fail
      go_ret
      exact HE.out
set_option maxHeartbeats 1000000 in
theorem lsize_any (l : List Edg) (v : Value) (w : World) (h : RdrE w v l) (hn : l.length ≤ 4398046511104) :
    Calls Try.prog 14 #[v] w fun e w' => ∃ n : Nat, e = .returned (.int .i64 n) ∧ n ≤ 4398046512104 * 2 ∧ (n ≤ 120 → l.length ≤ n ∧ ∀ E ∈ l, E.ps.length ≤ 120) ∧ w = w' := by
  obtain ⟨p, c, rfl⟩ := h.shape
  obtain ⟨m, hm⟩ : ∃ m, m = l.length := ⟨_, rfl⟩
  have HH := Lib.hid h
  have HM := Lib.hid hm
  rw [← hm] at hn HH ⊢
  clear h hm
  go_enter Try.func14, Try.ntmps14
  go_wp2_with fail
  go_loop [3, 4] (fun x i => ∃ k s : Nat, k ≤ m ∧ i = .int .i64 k ∧ x = .int .i64 s ∧ Hid (m ≤ s ∧ ∀ E ∈ l.take k, E.ps.length ≤ s) ∧ s ≤ 4398046512104 * 2) (fun _ i => m - (intOf i).toNat)
  case atStart => exact ⟨0, m, by omega, rfl, rfl, Lib.hid ⟨Nat.le_refl _, fun d hd => by simp at hd⟩, by omega⟩
  case round =>
    obtain ⟨k, s, hk, rfl, rfl, HS, hs⟩ := hrel
    by_cases hlt : k < m
    · have hkI : (k : Int) < (m : Int) := by omega
      by_cases h2 : s ≤ 120
      · have h2I : (s : Int) ≤ 120 := by omega
        obtain ⟨E, hE⟩ : ∃ E, l[k]? = some E := ⟨l[k]'(by have := HM.out; omega), List.getElem?_eq_getElem _⟩
        have hrd := HH.out
        rw [HM.out] at hrd
        obtain ⟨b, o, rfl, -, -, -, -, c4⟩ := RdrE.at hrd hE
        have hat := hrd.each E (List.mem_of_getElem? hE)
        obtain ⟨-, vp, vc, hvv, -⟩ := id hat.rdr
        have hpn := hat.n
        rw [hvv] at c4
        have HT := Lib.hid (show ∀ x ∈ l.take (k + 1), x.ps.length ≤ s + E.ps.length from fun x hx => by
          rw [List.take_add_one, hE] at hx
          rcases List.mem_append.1 hx with e | e
          · have := HS.out.2 x e; omega
          · have : x = E := by simpa using e
            rw [this]; omega)
        have hms := HS.out.1
        obtain ⟨q, hq⟩ : ∃ q, q = E.ps.length := ⟨_, rfl⟩
        rw [← hq] at c4 HT hpn
        have HMS := Lib.hid hms
        clear hvv hq hat hE hms hrd
        go_wp2_with fail
        go_round
        case rel => exact ⟨k + 1, s + q, by omega, by go_num, by go_num, Lib.hid ⟨by have := HMS.out; omega, HT.out⟩, by omega⟩
        case measure => simp [intOf]; omega
      · have h2I : ¬ (s : Int) ≤ 120 := by omega
        go_wp2_with fail
        go_ret
        exact ⟨s, rfl, hs, fun h => by omega, rfl⟩
    · have HF := Lib.hid (show m ≤ s ∧ ∀ E ∈ l, E.ps.length ≤ s by
        have h1 := HS.out
        rw [List.take_of_length_le (by have := HM.out; omega)] at h1
        exact h1)
      go_wp2_with fail
      go_ret
      exact ⟨s, rfl, hs, fun h => ⟨by have := HF.out.1; have := HM.out; omega, fun d hd => by have := HF.out.2 d hd; omega⟩, rfl⟩
end Go.Proofs.Ythhmmjpgefinmaa

set_option maxRecDepth 10000
namespace Go.Proofs.Ythhmmjpgefinmaa
set_option linter.unusedVariables false
set_option linter.unusedSimpArgs false
open Go.RowKit Go.Shelf
attribute [local go_sem] Oper.semAt_some

def xE (m : Int) : Edg := ⟨⟨#[97]⟩, ⟨#[98]⟩, ⟨#[120]⟩, m, .slice none 0 0, []⟩
theorem xE_at (W : World) (m : Int) : EdgAt W (xE m) := ⟨Rdr.nil _ _ _ _, by show (0 : Nat) ≤ _; omega, (fun p hp => by cases hp), by show (1 : Nat) ≤ maxLen; unfold maxLen; omega, by show (1 : Nat) ≤ maxLen; unfold maxLen; omega, by show (1 : Nat) ≤ maxLen; unfold maxLen; omega⟩
def xL : List Edg := [xE 10, xE 6, xE 5]
def xS : List Slt := [(1, 5), (2, 10)]
def xO (m : Int) : Out := outE (xE m)
theorem x_lt1 : kcmp (okey (xO 6)) (okey (xO 10)) < 0 := by decide
theorem x_lt2 : kcmp (okey (xO 5)) (okey (xO 6)) < 0 := by decide
theorem x_ck (m : Int) (h : m = 5 ∨ m = 6 ∨ m = 10) : checkE (xE m) = 0 := by rcases h with rfl | rfl | rfl <;> decide
theorem x_fill : fillO xL = [xO 5, xO 6, xO 10] := by
  have h1 : putO [] (xE 10) = [xO 10] := by unfold putO; rw [if_pos ⟨x_ck 10 (by simp), rfl⟩]; rfl
  have h2 : putO [xO 10] (xE 6) = [xO 6, xO 10] := by
    unfold putO; rw [if_pos ⟨x_ck 6 (by simp), by decide⟩]
    show insO (xO 6) [xO 10] = _
    rw [insO, if_pos x_lt1]
  have h3 : putO [xO 6, xO 10] (xE 5) = [xO 5, xO 6, xO 10] := by
    unfold putO; rw [if_pos ⟨x_ck 5 (by simp), by decide⟩]
    show insO (xO 5) [xO 6, xO 10] = _
    rw [insO, if_pos x_lt2]
  show putO (putO (putO [] (xE 10)) (xE 6)) (xE 5) = _
  rw [h1, h2, h3]
theorem x_closes : closesD 4 10 xS = [(5, 1), (10, 1), (10, 2)] := by decide
theorem x_cnt : (cntV 4 10 xS).2 = 0 := by decide
theorem x_tw5 : tw 5 [xO 5, xO 6, xO 10] = [xO 5] := by rw [tw_yes (by show (5 : Int) ≤ 5; omega), tw_no (by show ¬ (6 : Int) ≤ 5; omega)]
theorem x_tw10 : tw 10 [xO 6, xO 10] = [xO 6, xO 10] := by rw [tw_yes (by show (6 : Int) ≤ 10; omega), tw_yes (by show (10 : Int) ≤ 10; omega)]; rfl
theorem x_ev : evP 4 10 xS (fillO xL) = [eE (xO 5), eC (5, 1), eE (xO 6), eE (xO 10), eC (10, 1), eC (10, 2)] := by
  unfold evP
  rw [if_pos x_cnt, x_closes, x_fill]
  simp only [evL]
  rw [x_tw5]
  simp only [List.length_cons, List.length_nil, List.drop_succ_cons, List.drop_zero, Nat.zero_add]
  rw [x_tw10]
  rfl
theorem x_puts : Puts xL := ⟨by decide, fun E hE => by
  simp only [xL, List.mem_cons, List.not_mem_nil, or_false] at hE
  rcases hE with rfl | rfl | rfl <;> exact ⟨by unfold InR xE; simp, by show (0 : Nat) ≤ _; omega⟩⟩
theorem six_of {L : List EV} {e0 e1 e2 e3 e4 e5 : PEv} (h : L.map outV = [e0, e1, e2, e3, e4, e5]) : ∃ a b c d e f, L = [a, b, c, d, e, f] ∧ outV a = e0 ∧ outV b = e1 ∧ outV c = e2 ∧ outV d = e3 ∧ outV e = e4 ∧ outV f = e5 := by
  have hl : L.length = 6 := by have := congrArg List.length h; simpa using this
  match L, hl with
  | [a, b, c, d, e, f], _ =>
    simp only [List.map_cons, List.map_nil, List.cons.injEq, and_true] at h
    exact ⟨a, b, c, d, e, f, rfl, h.1, h.2.1, h.2.2.1, h.2.2.2.1, h.2.2.2.2.1, h.2.2.2.2.2⟩
theorem cellsAt8 {W : World} {p : Option Addr} {n c : Nat} {L : List EV} {k : Nat} {x : EV} (h : Rdr W 8 (.slice p n c) n (vcs L)) (hn : n = L.length) (hx : L[k]? = some x) : ∃ b o, p = some ⟨b, o, none⟩ ∧ W.cell? ⟨b, o + k * 8, none⟩ = some (.bool x.c) ∧ W.cell? ⟨b, o + k * 8 + 1, none⟩ = some (.string x.e.1.f) ∧ W.cell? ⟨b, o + k * 8 + 2, none⟩ = some (.string x.e.1.t) ∧ W.cell? ⟨b, o + k * 8 + 3, none⟩ = some (.string x.e.1.l) ∧ W.cell? ⟨b, o + k * 8 + 4, none⟩ = some (.int .i64 x.e.1.tm) ∧ W.cell? ⟨b, o + k * 8 + 5, none⟩ = some x.e.1.v ∧ W.cell? ⟨b, o + k * 8 + 6, none⟩ = some (.int .i64 x.q) ∧ W.cell? ⟨b, o + k * 8 + 7, none⟩ = some (.int .i64 x.a) := by
  have h0 : 0 < n := by have := (List.getElem?_eq_some_iff.1 hx).1; omega
  obtain ⟨b, o, hp, hc⟩ := h.one h0
  obtain ⟨a0, a1, a2, a3, a4, a5, a6, a7⟩ := vcs_get hx
  exact ⟨b, o, hp, hc _ _ a0, by rw [Nat.add_assoc]; exact hc _ _ a1, by rw [Nat.add_assoc]; exact hc _ _ a2, by rw [Nat.add_assoc]; exact hc _ _ a3, by rw [Nat.add_assoc]; exact hc _ _ a4, by rw [Nat.add_assoc]; exact hc _ _ a5, by rw [Nat.add_assoc]; exact hc _ _ a6, by rw [Nat.add_assoc]; exact hc _ _ a7⟩
set_option maxHeartbeats 8000000 in
theorem awake_any (w : World) : Calls Try.prog 6 #[] w fun e w' => e = .returned (.bool true) ∧ G w w' := by
  go_enter Try.func6, Try.ntmps6
  go_wp2_with fail
  refine (edge_any _ _ _ _).mono ?_
  rintro e w2 ⟨rfl, hg2⟩
  go_wp2_with fail
  refine (edge_any _ _ _ _).mono ?_
  rintro e w3 ⟨rfl, hg3⟩
  go_wp2_with fail
  refine (edge_any _ _ _ _).mono ?_
  rintro e w4 ⟨rfl, hg4⟩
  have hgA : G w (w.alloc (.cells #[.int .i64 1, .int .i64 5, .int .i64 2, .int .i64 10] 55)) := (G.refl w).alloc _
  have hrs : RdrS (w.alloc (.cells #[.int .i64 1, .int .i64 5, .int .i64 2, .int .i64 10] 55)) (.slice (some ⟨w.heap.size, 0, none⟩) 2 2) xS := rdr_alloc w [.int .i64 1, .int .i64 5, .int .i64 2, .int .i64 10] 55 (0, 0) 2 2 2 rfl
  have hg24 := (hg2.trans hg3).trans hg4
  have hga4 := hgA.trans hg24
  have hz4 : w.heap.size + 1 ≤ w4.heap.size := by have := hg24.size; simpa using this
  have hr4 := RdrS.g hrs hg24
  have hg5 : G w4 (w4.alloc (.cells #[.string ⟨#[97]⟩, .string ⟨#[98]⟩, .string ⟨#[120]⟩, .int .i64 10, .slice none 0 0, .string ⟨#[97]⟩, .string ⟨#[98]⟩, .string ⟨#[120]⟩, .int .i64 6, .slice none 0 0, .string ⟨#[97]⟩, .string ⟨#[98]⟩, .string ⟨#[120]⟩, .int .i64 5, .slice none 0 0] 51)) := (G.refl w4).alloc _
  have hre : RdrE (w4.alloc (.cells #[.string ⟨#[97]⟩, .string ⟨#[98]⟩, .string ⟨#[120]⟩, .int .i64 10, .slice none 0 0, .string ⟨#[97]⟩, .string ⟨#[98]⟩, .string ⟨#[120]⟩, .int .i64 6, .slice none 0 0, .string ⟨#[97]⟩, .string ⟨#[98]⟩, .string ⟨#[120]⟩, .int .i64 5, .slice none 0 0] 51)) (.slice (some ⟨w4.heap.size, 0, none⟩) 3 3) xL := ⟨rdr_alloc w4 (ecs xL) 51 (0, 0) 5 3 3 rfl, fun E hE => by
    simp only [xL, List.mem_cons, List.not_mem_nil, or_false] at hE
    rcases hE with rfl | rfl | rfl <;> exact xE_at _ _⟩
  have hr5 := hr4.g hg5
  have hz5 : w.heap.size + 1 ≤ (w4.alloc (.cells #[.string ⟨#[97]⟩, .string ⟨#[98]⟩, .string ⟨#[120]⟩, .int .i64 10, .slice none 0 0, .string ⟨#[97]⟩, .string ⟨#[98]⟩, .string ⟨#[120]⟩, .int .i64 6, .slice none 0 0, .string ⟨#[97]⟩, .string ⟨#[98]⟩, .string ⟨#[120]⟩, .int .i64 5, .slice none 0 0] 51)).heap.size := by simp; omega
  have hga5 := hga4.trans hg5
  have HF := Lib.hid (filled_any xL _ _ hre x_puts)
  have HRS : Hid (∀ X, G (w4.alloc (.cells #[.string ⟨#[97]⟩, .string ⟨#[98]⟩, .string ⟨#[120]⟩, .int .i64 10, .slice none 0 0, .string ⟨#[97]⟩, .string ⟨#[98]⟩, .string ⟨#[120]⟩, .int .i64 6, .slice none 0 0, .string ⟨#[97]⟩, .string ⟨#[98]⟩, .string ⟨#[120]⟩, .int .i64 5, .slice none 0 0] 51)) X → RdrS X (.slice (some ⟨w.heap.size, 0, none⟩) 2 2) xS ∧ G w X) := Lib.hid (fun X hX => ⟨hr5.g hX, hga5.trans hX⟩)
  clear hrs hre hr4 hr5 hg5 hg24 hga4 hgA hg2 hg3 hg4 hga5
  go_wp2_with fail
  generalize (w4.alloc (.cells #[.string ⟨#[97]⟩, .string ⟨#[98]⟩, .string ⟨#[120]⟩, .int .i64 10, .slice none 0 0, .string ⟨#[97]⟩, .string ⟨#[98]⟩, .string ⟨#[120]⟩, .int .i64 6, .slice none 0 0, .string ⟨#[97]⟩, .string ⟨#[98]⟩, .string ⟨#[120]⟩, .int .i64 5, .slice none 0 0] 51)) = w5 at HF HRS hz5 ⊢
  refine HF.out.mono ?_
  rintro e w6 ⟨B, S, P, rfl, hb, hnew, hg6⟩
  obtain ⟨hr6, hgw6⟩ := HRS.out w6 hg6
  have HTD := Lib.hid (told_any S P B (fillO xL) 4 10 xS _ 99 w6 hb hr6 (by show (2 : Nat) ≤ _; omega) (by have := fillO_len xL; have h3 : xL.length = 3 := rfl; omega) x_puts.each (fun _ g hg hs => by
    have h1 := hnew g (.inl hs)
    have e2 : w.heap.size = g := by simpa [Value.ownBlock] using hg
    omega) (by omega))
  have HG6 := Lib.hid (show ∀ X, Fr S w6 X → G w X from fun X hX => g_of_fr hgw6 hX (fun k hk => by have := hnew k (.inl hk); omega))
  clear hb hnew hg6 hr6 hgw6 HF HRS
  go_wp2_with fail
  refine HTD.out.mono ?_
  rintro e w7 ⟨u, L, rfl, hown, hmo, -, -, -, hf⟩
  have HGW := Lib.hid (HG6.out w7 hf)
  rw [x_ev] at hmo
  obtain ⟨xa, xb, xc, xd, xe, xf, rfl, ha, hb, hc, hd, he, hff⟩ := six_of hmo
  have hrd := rdr_of_owns hown
  obtain ⟨lp, lc, rfl⟩ := ownsRow_shape hown
  obtain ⟨bb, oo, rfl, -, -, -, -, -, -, -, a7⟩ := cellsAt8 (k := 0) (x := xa) hrd rfl rfl
  obtain ⟨_, _, e1, b0, -, -, -, -, -, b6, -⟩ := cellsAt8 (k := 1) (x := xb) hrd rfl rfl
  cases e1
  obtain ⟨_, _, e1, -, -, -, -, -, -, -, c7⟩ := cellsAt8 (k := 2) (x := xc) hrd rfl rfl
  cases e1
  obtain ⟨_, _, e1, d0, -, -, -, -, -, -, -⟩ := cellsAt8 (k := 3) (x := xd) hrd rfl rfl
  cases e1
  obtain ⟨_, _, e1, -, -, -, -, -, -, e6, e7⟩ := cellsAt8 (k := 4) (x := xe) hrd rfl rfl
  cases e1
  obtain ⟨_, _, e1, -, -, -, -, -, -, f6, -⟩ := cellsAt8 (k := 5) (x := xf) hrd rfl rfl
  cases e1
  rw [show xa.a = 5 from congrArg (fun o : PEv => o.2.2.2) ha, show oo + 0 * 8 + 7 = oo + 7 by omega] at a7
  rw [show xb.c = true from congrArg (fun o : PEv => o.1) hb, show oo + 1 * 8 = oo + 8 by omega] at b0
  rw [show xb.q = 1 from congrArg (fun o : PEv => o.2.2.1) hb, show oo + 1 * 8 + 6 = oo + 8 + 6 by omega] at b6
  rw [show xc.a = 6 from congrArg (fun o : PEv => o.2.2.2) hc, show oo + 2 * 8 + 7 = oo + 16 + 7 by omega] at c7
  rw [show xd.c = false from congrArg (fun o : PEv => o.1) hd, show oo + 3 * 8 = oo + 24 by omega] at d0
  rw [show xe.q = 1 from congrArg (fun o : PEv => o.2.2.1) he, show oo + 4 * 8 + 6 = oo + 32 + 6 by omega] at e6
  rw [show xe.a = 10 from congrArg (fun o : PEv => o.2.2.2) he, show oo + 4 * 8 + 7 = oo + 32 + 7 by omega] at e7
  rw [show xf.q = 2 from congrArg (fun o : PEv => o.2.2.1) hff, show oo + 5 * 8 + 6 = oo + 40 + 6 by omega] at f6
  clear hown hmo hf hrd ha hb hc hd he hff HTD HG6
  simp only [List.length_cons, List.length_nil]
  go_wp2_with fail
  go_ret
  exact ⟨rfl, HGW.out⟩
end Go.Proofs.Ythhmmjpgefinmaa
