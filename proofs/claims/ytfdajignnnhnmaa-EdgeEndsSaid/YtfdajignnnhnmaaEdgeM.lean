/- edges: bytes as an edge: the document's Parse -/
import Derived.Test.YtfdajignnnhnmaaEdgeL
namespace Go.Proofs.Ytfdajignnnhnmaa
set_option linter.unusedVariables false
set_option linter.unusedSimpArgs false
open Go.RowKit Go.Shelf
attribute [local go_sem] Oper.semAt_some

theorem rq_new {p : Option Addr} {c : Nat} {l : List UInt8} {w : World} (h : Rdr w 1 (.slice p l.length c) l.length (bys l)) (hc : l.length ≤ c) (hc2 : c ≤ 9223372036854775807) {w1 : World} (hg : G w w1) {v : Value} (hv : v = .slice p l.length c) :
    Rq (w1.alloc (.cells #[v, .bool false] 68)) w1.heap.size (false, l) := by
  subst hv
  exact ⟨p, c, alloc_new _ _, (h.g hg).alloc _, hc, hc2, fun h0 g hgg => by have := h.lt h0 (by omega) g hgg; have := hg.size; omega⟩
theorem lt_of_cell {W : World} {b o : Nat} {v : Value} (h : W.cell? ⟨b, o, none⟩ = some v) : b < W.heap.size := World.block_lt_of_cell? W ⟨b, o, none⟩ h
set_option maxRecDepth 10000 in
set_option maxHeartbeats 4000000 in
theorem rparse_any (p : Option Addr) (c : Nat) (l : List UInt8) (w : World) (h : Rdr w 1 (.slice p l.length c) l.length (bys l)) (hc : l.length ≤ c) (hc2 : c ≤ 9223372036854775807) :
    Calls Try.prog 12 #[.slice p l.length c] w fun e w' => ∃ E : Edg, e = .returned (.tuple #[ev E, .int .i64 (errP l)]) ∧ outE E = outP l ∧ EdgAt w' E ∧ G w w' := by
  obtain ⟨j0, hj, hy0, hy1, hy2⟩ := info_parts infoP
  obtain ⟨m, hm⟩ : ∃ m, m = l.length := ⟨_, rfl⟩
  obtain ⟨WA, hWA⟩ : ∃ X : World, X = ((w.alloc (.cells #[.string ⟨#[]⟩, .string ⟨#[]⟩, .string ⟨#[]⟩, .int .i64 0, .slice none 0 0] 27)).alloc (.cells #[.slice p m c, .bool false] 68)).alloc (.cells #[.string ⟨#[]⟩, .string ⟨#[]⟩, .string ⟨#[]⟩, .int .i64 0, .slice none 0 0] 27) := ⟨_, rfl⟩
  have hgZ : G w (w.alloc (.cells #[.string ⟨#[]⟩, .string ⟨#[]⟩, .string ⟨#[]⟩, .int .i64 0, .slice none 0 0] 27)) := (G.refl w).alloc _
  have rqA : Rq WA (w.heap.size + 1) (false, l) := by
    have := rq_new h hc hc2 hgZ (v := .slice p m c) (by rw [hm])
    rw [World.size_alloc] at this
    rw [hWA]; exact this.g ((G.refl _).alloc _)
  have heA : WA.heap[w.heap.size + 2]? = some (.cells #[.string ⟨#[]⟩, .string ⟨#[]⟩, .string ⟨#[]⟩, .int .i64 0, .slice none 0 0] 27 (0, 0)) := by
    rw [hWA]
    have := alloc_new ((w.alloc (.cells #[.string ⟨#[]⟩, .string ⟨#[]⟩, .string ⟨#[]⟩, .int .i64 0, .slice none 0 0] 27)).alloc (.cells #[.slice p m c, .bool false] 68)) (.cells #[.string ⟨#[]⟩, .string ⟨#[]⟩, .string ⟨#[]⟩, .int .i64 0, .slice none 0 0] 27)
    rw [World.size_alloc, World.size_alloc] at this
    exact this
  have hzA : WA.heap[w.heap.size]? = some (.cells #[.string ⟨#[]⟩, .string ⟨#[]⟩, .string ⟨#[]⟩, .int .i64 0, .slice none 0 0] 27 (0, 0)) := by
    rw [hWA]
    exact ((((G.refl _).alloc _).alloc _).block (by rw [World.size_alloc]; omega)).trans (alloc_new w _)
  have hgA : G w WA := by rw [hWA]; exact (hgZ.alloc _).alloc _
  have hszA : WA.heap.size = w.heap.size + 3 := by rw [hWA]; simp
  have frA : Fr (fun q => q = w.heap.size + 1 ∨ q = w.heap.size + 2) WA WA := Fr.refl _ _
  have HWA := Lib.hid hWA
  have HGA := Lib.hid hgA
  have HSZA := Lib.hid hszA
  have HZA := Lib.hid hzA
  have HM := Lib.hid hm
  rw [← hm]
  clear h hc hc2 hWA hgZ hgA hszA hzA hm
  go_enter Try.func12, Try.ntmps12
  go_upto_region 3 with fail
  rw [← HWA.out]
  obtain ⟨f, hf⟩ : ∃ x, x = (wordP (false, l)).1 := ⟨_, rfl⟩
  obtain ⟨s1, hs1⟩ : ∃ s, s = (wordP (false, l)).2 := ⟨_, rfl⟩
  have HN1 := Lib.hid (show wordP (false, l) = (f, s1) by rw [hf, hs1])
  have HC1 := Lib.hid (rtext_any _ (false, l) WA rqA)
  rw [← hf, ← hs1] at HC1
  clear hf hs1
  go_wp2_with fail
  refine HC1.out.mono ?_
  rintro e V1 ⟨rfl, rv1, fv1⟩
  have hv1 := (fv1.block _ (heap_lt heA) (by omega)).trans heA
  obtain ⟨q0, q1, q2, q3, q4⟩ := cells5 hv1
  have y0 : V1.frozen? ⟨w.heap.size + 2, 0, none⟩ = false := by unfold World.frozen?; rw [hv1]; simp
  go_upto_region 4 with fail
  obtain ⟨W1, hW⟩ : ∃ X : World, X = V1.setCell ⟨w.heap.size + 2, 0, none⟩ (.string f) := ⟨_, rfl⟩
  rw [← hW]
  have he1 : W1.heap[w.heap.size + 2]? = some (.cells #[.string f, .string ⟨#[]⟩, .string ⟨#[]⟩, .int .i64 0, .slice none 0 0] 27 (0, 0)) := by rw [hW]; exact heap_setCell_at _ _ 0 _ _ _ _ hv1
  have fE : Fr (fun q => q = w.heap.size + 2) V1 W1 := by rw [hW]; exact (Fr.refl (fun q => q = w.heap.size + 2) V1).setCell (p := ⟨w.heap.size + 2, 0, none⟩) (.inl rfl) _
  have rq1 := rv1.fr fE (fun g e => by omega)
  have fr1 := (frA.trans fv1 (fun _ _ h => .inl h)).trans fE (fun _ _ h => .inr h)
  clear HC1 rv1 fv1 hv1 q0 q1 q2 q3 q4 y0 hW fE rqA heA frA
  obtain ⟨t, ht⟩ : ∃ x, x = (wordP s1).1 := ⟨_, rfl⟩
  obtain ⟨s2, hs2⟩ : ∃ s, s = (wordP s1).2 := ⟨_, rfl⟩
  have HN2 := Lib.hid (show wordP s1 = (t, s2) by rw [ht, hs2])
  have HC2 := Lib.hid (rtext_any _ s1 W1 rq1)
  rw [← ht, ← hs2] at HC2
  clear ht hs2
  go_wp2_with fail
  refine HC2.out.mono ?_
  rintro e V2 ⟨rfl, rv2, fv2⟩
  have hv2 := (fv2.block _ (heap_lt he1) (by omega)).trans he1
  obtain ⟨q0, q1, q2, q3, q4⟩ := cells5 hv2
  have y1 : V2.frozen? ⟨w.heap.size + 2, 1, none⟩ = false := by unfold World.frozen?; rw [hv2]; simp
  go_upto_region 5 with fail
  obtain ⟨W2, hW⟩ : ∃ X : World, X = V2.setCell ⟨w.heap.size + 2, 1, none⟩ (.string t) := ⟨_, rfl⟩
  rw [← hW]
  have he2 : W2.heap[w.heap.size + 2]? = some (.cells #[.string f, .string t, .string ⟨#[]⟩, .int .i64 0, .slice none 0 0] 27 (0, 0)) := by rw [hW]; exact heap_setCell_at _ _ 1 _ _ _ _ hv2
  have fE : Fr (fun q => q = w.heap.size + 2) V2 W2 := by rw [hW]; exact (Fr.refl (fun q => q = w.heap.size + 2) V2).setCell (p := ⟨w.heap.size + 2, 1, none⟩) (.inl rfl) _
  have rq2 := rv2.fr fE (fun g e => by omega)
  have fr2 := (fr1.trans fv2 (fun _ _ h => .inl h)).trans fE (fun _ _ h => .inr h)
  clear HC2 rv2 fv2 hv2 q0 q1 q2 q3 q4 y1 hW fE rq1 he1 fr1
  obtain ⟨lb, hlb⟩ : ∃ x, x = (wordP s2).1 := ⟨_, rfl⟩
  obtain ⟨s3, hs3⟩ : ∃ s, s = (wordP s2).2 := ⟨_, rfl⟩
  have HN3 := Lib.hid (show wordP s2 = (lb, s3) by rw [hlb, hs3])
  have HC3 := Lib.hid (rtext_any _ s2 W2 rq2)
  rw [← hlb, ← hs3] at HC3
  clear hlb hs3
  go_wp2_with fail
  refine HC3.out.mono ?_
  rintro e V3 ⟨rfl, rv3, fv3⟩
  have hv3 := (fv3.block _ (heap_lt he2) (by omega)).trans he2
  obtain ⟨q0, q1, q2, q3, q4⟩ := cells5 hv3
  have y2 : V3.frozen? ⟨w.heap.size + 2, 2, none⟩ = false := by unfold World.frozen?; rw [hv3]; simp
  go_upto_region 6 with fail
  obtain ⟨W3, hW⟩ : ∃ X : World, X = V3.setCell ⟨w.heap.size + 2, 2, none⟩ (.string lb) := ⟨_, rfl⟩
  rw [← hW]
  have he3 : W3.heap[w.heap.size + 2]? = some (.cells #[.string f, .string t, .string lb, .int .i64 0, .slice none 0 0] 27 (0, 0)) := by rw [hW]; exact heap_setCell_at _ _ 2 _ _ _ _ hv3
  have fE : Fr (fun q => q = w.heap.size + 2) V3 W3 := by rw [hW]; exact (Fr.refl (fun q => q = w.heap.size + 2) V3).setCell (p := ⟨w.heap.size + 2, 2, none⟩) (.inl rfl) _
  have rq3 := rv3.fr fE (fun g e => by omega)
  have fr3 := (fr2.trans fv3 (fun _ _ h => .inl h)).trans fE (fun _ _ h => .inr h)
  clear HC3 rv3 fv3 hv3 q0 q1 q2 q3 q4 y2 hW fE rq2 he2 fr2
  obtain ⟨tm, htm⟩ : ∃ x, x = (numP s3).1 := ⟨_, rfl⟩
  obtain ⟨s4, hs4⟩ : ∃ s, s = (numP s3).2 := ⟨_, rfl⟩
  have HN4 := Lib.hid (show numP s3 = (tm, s4) by rw [htm, hs4])
  have HC4 := Lib.hid (rnum_any _ s3 W3 rq3)
  rw [← htm, ← hs4] at HC4
  clear htm hs4
  go_wp2_with fail
  refine HC4.out.mono ?_
  rintro e V4 ⟨rfl, rv4, fv4⟩
  have hv4 := (fv4.block _ (heap_lt he3) (by omega)).trans he3
  obtain ⟨q0, q1, q2, q3, q4⟩ := cells5 hv4
  have y3 : V4.frozen? ⟨w.heap.size + 2, 3, none⟩ = false := by unfold World.frozen?; rw [hv4]; simp
  go_upto_region 7 with fail
  obtain ⟨W4, hW⟩ : ∃ X : World, X = V4.setCell ⟨w.heap.size + 2, 3, none⟩ (.int .i64 tm) := ⟨_, rfl⟩
  rw [← hW]
  have he4 : W4.heap[w.heap.size + 2]? = some (.cells #[.string f, .string t, .string lb, .int .i64 tm, .slice none 0 0] 27 (0, 0)) := by rw [hW]; exact heap_setCell_at _ _ 3 _ _ _ _ hv4
  have fE : Fr (fun q => q = w.heap.size + 2) V4 W4 := by rw [hW]; exact (Fr.refl (fun q => q = w.heap.size + 2) V4).setCell (p := ⟨w.heap.size + 2, 3, none⟩) (.inl rfl) _
  have rq4 := rv4.fr fE (fun g e => by omega)
  have fr4 := (fr3.trans fv4 (fun _ _ h => .inl h)).trans fE (fun _ _ h => .inr h)
  clear HC4 rv4 fv4 hv4 q0 q1 q2 q3 q4 y3 hW fE rq3 he3 fr3
  obtain ⟨m0, hm0⟩ : ∃ m0, m0 = headN (takeP 1 s4).1 := ⟨_, rfl⟩
  obtain ⟨s5, hs5⟩ : ∃ s, s = (takeP 1 s4).2 := ⟨_, rfl⟩
  have hm255 : m0 ≤ 255 := by rw [hm0]; exact headN_lt _
  have HE := Lib.hid (show edgeP l = ((f, t, lb, tm, (rdP m0 ([], s5)).1), (rdP m0 ([], s5)).2) by
    rw [hm0, hs5]; simp only [edgeP, HN1.out, HN2.out, HN3.out, HN4.out])
  have HSZ := Lib.hid (show f.size ≤ 255 ∧ t.size ≤ 255 ∧ lb.size ≤ 255 from ⟨by have := wordP_size (false, l); rwa [HN1.out] at this, by have := wordP_size s1; rwa [HN2.out] at this, by have := wordP_size s2; rwa [HN3.out] at this⟩)
  have htm := numP_bd s3
  rw [HN4.out] at htm
  simp only at htm
  have HL := Lib.hid (bys_head (l := (takeP 1 s4).1) (by rw [takeP_len]; omega))
  rw [← hm0] at HL
  have HTK := Lib.hid (rtake_any 1 _ s4 W4 rq4 (by omega))
  rw [← hs5] at HTK
  clear hm0 hs5 rq4 HN1 HN2 HN3 HN4
  go_wp2_with fail
  refine HTK.out.mono ?_
  rintro e W5 ⟨u, rfl, hu, rq5, f5, hat⟩
  obtain ⟨-, up, uc, rfl, -⟩ := id hu
  obtain ⟨b, o, rfl, hcell⟩ := hu.one (by omega)
  have hx := hcell 0 _ HL.out
  rw [Nat.add_zero] at hx
  have hb : b ≠ w.heap.size + 1 ∧ b ≠ w.heap.size + 2 := by
    have h4 := heap_lt he4
    rcases hat (by omega) b rfl with h | h
    · have := fr4.size; have := HSZA.out; omega
    · omega
  have he5 := (f5.block _ (heap_lt he4) (by omega)).trans he4
  have fr5 := fr4.trans f5 (fun _ _ h => .inl h)
  have hz5 := (fr5.block _ (heap_lt HZA.out) (by omega)).trans HZA.out
  have hg5 : G w W5 := g_of_fr HGA.out fr5 (fun q e => by omega)
  have hs5 : w.heap.size + 3 ≤ W5.heap.size := by have := fr5.size; have := HSZA.out; omega
  have hbx := lt_of_cell hx
  clear HTK HL hcell hu fr4 fr5 f5 hat he4
  go_wp2_with fail
  obtain ⟨B0, hB0⟩ : ∃ B0, B0 = W5.heap.size := ⟨_, rfl⟩
  have HB0 := Lib.hid hB0
  rw [← hB0] at hbx hs5
  have hB5 : B0 ≤ W5.heap.size := by omega
  clear hB0
  go_loopw [7] (fun i wr => ∃ (k : Nat) (ps : List Prp) (st : St) (pp : Option Addr) (pc : Nat), k ≤ m0 ∧ i = .int .i64 k ∧ ps.length = k ∧ wr.heap[w.heap.size + 2]? = some (.cells #[.string f, .string t, .string lb, .int .i64 tm, .slice pp k pc] 27 (0, 0)) ∧ wr.ownsRow B0 56 4 (.slice pp k pc) k (pcells ps) ∧ PSmall ps ∧
    Hid (rdP m0 ([], s5) = rdP (m0 - k) (ps, st)) ∧ Rq wr (w.heap.size + 1) st ∧ wr.cell? ⟨b, o, none⟩ = some (.int .u8 m0) ∧
    wr.heap[w.heap.size]? = some (.cells #[.string ⟨#[]⟩, .string ⟨#[]⟩, .string ⟨#[]⟩, .int .i64 0, .slice none 0 0] 27 (0, 0)) ∧ G w wr ∧ B0 ≤ wr.heap.size) (fun i _ => m0 - (intOf i).toNat)
  case atStart => exact ⟨0, [], s5, none, 0, by omega, rfl, rfl, he5, World.ownsRow_nil _ _ _ _, (fun p hp => by cases hp), Lib.hid rfl, rq5, hx, hz5, hg5, hB5⟩
  case round =>
    clear he5 rq5 hx hz5 hg5 hB5
    obtain ⟨k, ps, st, pp, pc, hk, rfl, hpl, he, hown, hsm, HRP, hrq, hx, hr, hg, hz⟩ := hrel
    by_cases hlt : k < m0
    · have hltI : (k : Int) < (m0 : Int) := by omega
      have HPL := Lib.hid hpl
      have HKL := Lib.hid hlt
      have HOWN := Lib.hid hown
      have HE0 := Lib.hid he
      have HRr := Lib.hid hr
      have HG0 := Lib.hid hg
      have HX0 := Lib.hid hx
      obtain ⟨key, hkey⟩ : ∃ key, key = (wordP st).1 := ⟨_, rfl⟩
      obtain ⟨s6, hs6⟩ : ∃ s6, s6 = (wordP st).2 := ⟨_, rfl⟩
      obtain ⟨kd, hkd⟩ : ∃ kd, kd = headN (takeP 1 s6).1 := ⟨_, rfl⟩
      obtain ⟨s7, hs7⟩ : ∃ s7, s7 = (takeP 1 s6).2 := ⟨_, rfl⟩
      have HKEY := Lib.hid hkey
      have HS6 := Lib.hid hs6
      have HKD := Lib.hid hkd
      have HS7 := Lib.hid hs7
      have hkd255 : kd ≤ 255 := by rw [hkd]; exact headN_lt _
      have HL1 := Lib.hid (bys_head (l := (takeP 1 s6).1) (by rw [takeP_len]; omega))
      rw [← hkd] at HL1
      obtain ⟨A, hA⟩ : ∃ A, A = wr.heap.size := ⟨_, rfl⟩
      obtain ⟨X0, hX0⟩ : ∃ X : World, X = wr.alloc (.cells #[.string ⟨#[]⟩, .int .i64 0, .int .i64 0, .string ⟨#[]⟩] 56) := ⟨_, rfl⟩
      have pa0 : X0.heap[A]? = some (.cells #[.string ⟨#[]⟩, .int .i64 0, .int .i64 0, .string ⟨#[]⟩] 56 (0, 0)) := by rw [hX0, hA]; exact alloc_new _ _
      have fr0 : Fr (fun q => q = w.heap.size + 1) wr X0 := by rw [hX0]; exact (Fr.refl _ wr).alloc _
      have rq0 := hrq.g (show G wr X0 by rw [hX0]; exact (G.refl wr).alloc _)
      have HX := Lib.hid hX0
      have hAge : wr.heap.size ≤ A := by omega
      have HA := Lib.hid hA
      clear hpl hlt hown he hr hg hkey hs6 hkd hs7 hX0 hA hrq
      go_upto_region 12 with fail
      rw [← HX.out, ← HA.out]
      have HC6 := Lib.hid (rtext_any _ st X0 rq0)
      rw [← HKEY.out, ← HS6.out] at HC6
      clear hx HX
      go_wp2_with fail
      refine HC6.out.mono ?_
      rintro e V6 ⟨rfl, rv6, fv6⟩
      have hv6 := (fv6.block _ (heap_lt pa0) (by omega)).trans pa0
      obtain ⟨q0, q1, q2, q3⟩ := cells4 hv6
      have y0 : V6.frozen? ⟨A, 0, none⟩ = false := by unfold World.frozen?; rw [hv6]; simp
      go_upto_region 13 with fail
      obtain ⟨X6, hX⟩ : ∃ X : World, X = V6.setCell ⟨A, 0, none⟩ (.string key) := ⟨_, rfl⟩
      rw [← hX]
      have pa6 : X6.heap[A]? = some (.cells #[.string key, .int .i64 0, .int .i64 0, .string ⟨#[]⟩] 56 (0, 0)) := by rw [hX]; exact heap_setCell_at _ _ 0 _ _ _ _ hv6
      have fP : Fr (fun q => q = A) V6 X6 := by rw [hX]; exact (Fr.refl (fun q => q = A) V6).setCell (p := ⟨A, 0, none⟩) (.inl rfl) _
      have rq6 := rv6.fr fP (fun g e => by omega)
      have fr6 : Fr (fun q => q = w.heap.size + 1) wr X6 := by rw [hX]; exact (fr0.trans fv6 (fun _ _ h => h)).setCell (p := ⟨A, 0, none⟩) (.inr hAge) _
      have HC7 := Lib.hid (rtake_any 1 _ s6 X6 rq6 (by omega))
      rw [← HS7.out] at HC7
      clear HC6 rv6 fv6 hv6 q0 q1 q2 q3 y0 hX fP rq6 pa0 fr0 rq0
      go_wp2_with fail
      refine HC7.out.mono ?_
      rintro e X7 ⟨u3, rfl, hu3, rq7, fv7, -⟩
      obtain ⟨-, up3, uc3, rfl, -⟩ := id hu3
      obtain ⟨b3, o3, rfl, hcell3⟩ := hu3.one (by omega)
      have hx3 := hcell3 0 _ HL1.out
      rw [Nat.add_zero] at hx3
      have pa7 := (fv7.block _ (heap_lt pa6) (by omega)).trans pa6
      have fr7 := fr6.trans fv7 (fun _ _ h => h)
      obtain ⟨q0, q1, q2, q3⟩ := cells4 pa7
      have y1 : X7.frozen? ⟨A, 1, none⟩ = false := by unfold World.frozen?; rw [pa7]; simp
      clear HC7 hcell3 hu3 fv7 fr6 pa6
      go_upto_region 15 with fail
      obtain ⟨X8, hX⟩ : ∃ X : World, X = X7.setCell ⟨A, 1, none⟩ (.int .i64 kd) := ⟨_, rfl⟩
      rw [← hX]
      have pa8 : X8.heap[A]? = some (.cells #[.string key, .int .i64 kd, .int .i64 0, .string ⟨#[]⟩] 56 (0, 0)) := by rw [hX]; exact heap_setCell_at _ _ 1 _ _ _ _ pa7
      have fP : Fr (fun q => q = A) X7 X8 := by rw [hX]; exact (Fr.refl (fun q => q = A) X7).setCell (p := ⟨A, 1, none⟩) (.inl rfl) _
      have rq8 := rq7.fr fP (fun g e => by omega)
      have fr8 : Fr (fun q => q = w.heap.size + 1) wr X8 := by rw [hX]; exact fr7.setCell (p := ⟨A, 1, none⟩) (.inr hAge) _
      clear q0 q1 q2 q3 y1 hX fP rq7 pa7 fr7 hx3
      obtain ⟨q0, q1, q2, q3⟩ := cells4 pa8
      by_cases hkd1 : kd = 1
      · have hkb : ((kd : Int) == 1) = true := by simp [hkd1]
        have hpp : propP st = ((key, (kd : Int), (numP s7).1 - 1099511627776, ⟨#[]⟩), (numP s7).2) := by
          rw [propP, ← HS6.out, ← HKEY.out, ← HKD.out, ← HS7.out, if_pos hkd1, hkd1]; rfl
        obtain ⟨nm, hnm⟩ : ∃ nm, nm = (numP s7).1 := ⟨_, rfl⟩
        have hnb := numP_bd s7
        rw [← hnm] at hpp hnb
        obtain ⟨s9, hs9⟩ : ∃ s9, s9 = (numP s7).2 := ⟨_, rfl⟩
        rw [← hs9] at hpp
        have HPP := Lib.hid hpp
        have HC9 := Lib.hid (rnum_any _ s7 X8 rq8)
        rw [← hnm, ← hs9] at HC9
        clear hkd1 hpp hnm hs9 rq8
        go_wp2_with fail
        refine HC9.out.mono ?_
        rintro e X9 ⟨rfl, rv9, fv9⟩
        have pv9 := (fv9.block _ (heap_lt pa8) (by omega)).trans pa8
        have x2 := (cells4 pv9).2.2.1
        have y2 : X9.frozen? ⟨A, 2, none⟩ = false := by unfold World.frozen?; rw [pv9]; simp
        go_upto_region 18 with fail
        obtain ⟨w9, hw9⟩ : ∃ X : World, X = X9.setCell ⟨A, 2, none⟩ (.int .i64 (nm - 1099511627776)) := ⟨_, rfl⟩
        rw [← hw9]
        have pA9 : w9.heap[A]? = some (.cells #[.string key, .int .i64 kd, .int .i64 (nm - 1099511627776), .string ⟨#[]⟩] 56 (0, 0)) := by rw [hw9]; exact heap_setCell_at _ A 2 _ _ _ _ pv9
        have fA : Fr (fun q => q = A) X9 w9 := by rw [hw9]; exact (Fr.refl (fun q => q = A) X9).setCell (p := ⟨A, 2, none⟩) (.inl rfl) _
        have rs9 := rv9.fr fA (fun g e => by omega)
        have f9 : Fr (fun q => q = w.heap.size + 1) wr w9 := by rw [hw9]; exact (fr8.trans fv9 (fun _ _ h => h)).setCell (p := ⟨A, 2, none⟩) (.inr hAge) _
        have he9 := (f9.block _ (heap_lt HE0.out) (by omega)).trans HE0.out
        have hr9 := (f9.block _ (heap_lt HRr.out) (by omega)).trans HRr.out
        have hx9 := f9.cell (p := ⟨b, o, none⟩) hb.1 HX0.out
        have hown9 := f9.ownsRow HOWN.out (fun g hg e => by have := (HOWN.out.lt g hg).1; omega)
        have hg9 := g_of_fr HG0.out f9 (fun k hk => by omega)
        have hz9 := Nat.le_trans hz f9.size
        obtain ⟨z0, z1, z2, z3⟩ := cells4 pA9
        obtain ⟨-, -, -, -, e4⟩ := cells5 he9
        have HPV := Lib.hid (And.intro he9 (And.intro hr9 (And.intro hx9 (And.intro hown9 hg9))))
        have HRS9 := Lib.hid rs9
        clear q0 q1 q2 q3 x2 y2 hw9 pA9 fA rv9 fv9 rs9 f9 pv9 pa8 fr8 he9 hr9 hx9 hown9 hg9 HC9
        go_wp2_with (at_builtin; go_loud (refine wpList_append2 _ rfl _ _ 25 rfl B0 56 j0 (.agg #[.string ⟨#[]⟩, .int .i64 0, .int .i64 0, .string ⟨#[]⟩]) 4 48 Try.underlying25 hj hy0 hy1 hy2 rfl (by decide) (.slice pp k pc) k (pcells ps) rfl (((G.refl w9).alloc _).ownsRow HPV.out.2.2.2.1) ⟨w9.heap.size, 0, none⟩ 1 1 (#[.string key, .int .i64 kd, .int .i64 (nm - 1099511627776), .string ⟨#[]⟩]).toList rfl rfl (World.news_of_block (cs := #[.string key, .int .i64 kd, .int .i64 (nm - 1099511627776), .string ⟨#[]⟩]) (t := 56) (fr := (0, 0)) (alloc_new w9 _)) (by simp [Value.oneCell']) (by unfold maxLen; omega) (by omega) (by simp; omega) ?_); intro v2 w10 hown10 hgrow10 hnil10 hat10; obtain ⟨pp2, pc2, rfl⟩ := ownsRow_shape hown10; have hf10 : Fr (fun q => (Value.slice pp k pc).ownBlock = some q) w9 w10 := (((G.refl w9).alloc _).fr _).trans (grownBy_fr hgrow10) (fun _ _ h => h); have hn10 : ¬ (Value.slice pp k pc).ownBlock = some (w.heap.size + 2) := (fun e => by have := (HPV.out.2.2.2.1.lt _ e).1; omega); have he10 := (hf10.block _ (heap_lt HPV.out.1) hn10).trans HPV.out.1; obtain ⟨-, -, -, -, t4⟩ := cells5 he10; have u4 : w10.frozen? ⟨w.heap.size + 2, 4, none⟩ = false := (by unfold World.frozen?; rw [he10]; simp); have H10 := Lib.hid (And.intro hown10 (And.intro hf10 (And.intro he10 hat10))); clear hown10 hf10 hgrow10 hnil10 hat10 he10 hn10)
        obtain ⟨hown10, hf10, he10, hat10⟩ := H10.out
        obtain ⟨w11, hw11⟩ : ∃ X : World, X = w10.setCell ⟨w.heap.size + 2, 4, none⟩ (.slice pp2 (k + 1) pc2) := ⟨_, rfl⟩
        rw [← hw11]
        have fE : Fr (fun q => q = w.heap.size + 2) w10 w11 := by rw [hw11]; exact (Fr.refl (fun q => q = w.heap.size + 2) w10).setCell (p := ⟨w.heap.size + 2, 4, none⟩) (.inl rfl) _
        have he11 : w11.heap[w.heap.size + 2]? = some (.cells #[.string f, .string t, .string lb, .int .i64 tm, .slice pp2 (k + 1) pc2] 27 (0, 0)) := by rw [hw11]; exact heap_setCell_at _ _ 4 _ _ _ _ he10
        obtain ⟨he9, hr9, hx9, hown9, hg9⟩ := HPV.out
        have hlo : ∀ g, (Value.slice pp k pc).ownBlock = some g → B0 ≤ g := fun g hg => (hown9.lt g hg).1
        have rs11 := (HRS9.out.fr hf10 (fun g e => by have := hlo g e; omega)).fr fE (fun g e => by omega)
        have f11 : Fr (fun q => (Value.slice pp k pc).ownBlock = some q ∨ q = w.heap.size + 2) w9 w11 := (hf10.mono (fun _ h => .inl h)).trans fE (fun _ _ h => .inr h)
        have hn11 : ∀ q, q < B0 → q ≠ w.heap.size + 2 → ¬ ((Value.slice pp k pc).ownBlock = some q ∨ q = w.heap.size + 2) := fun q hq hq2 e => by rcases e with e | e; have := hlo q e; omega; omega
        have hx11 := f11.cell (p := ⟨b, o, none⟩) (hn11 b (by omega) hb.2) hx9
        have hr11 := (f11.block _ (heap_lt hr9) (hn11 _ (by omega) (by omega))).trans hr9
        have hg11 := g_of_fr hg9 f11 (fun q e => by rcases e with e | e; have := hlo q e; omega; omega)
        have hown11 := fE.ownsRow hown10 (fun g hg e => by have := (hown10.lt g hg).1; omega)
        have hz11 := Nat.le_trans hz9 f11.size
        have hps : (propP st).1 = (key, (kd : Int), nm - 1099511627776, ⟨#[]⟩) := by rw [HPP.out]
        have hrp : rdP m0 ([], s5) = rdP (m0 - (k + 1)) (ps ++ [(key, (kd : Int), nm - 1099511627776, ⟨#[]⟩)], s9) := by
          rw [HRP.out, show m0 - k = (m0 - (k + 1)) + 1 from by have := HKL.out; omega, rdP, HPP.out]
        have hsm1 : PSmall (ps ++ [(key, (kd : Int), nm - 1099511627776, ⟨#[]⟩)]) := by rw [← hps]; exact hsm.snoc st
        have hkm : k + 1 ≤ m0 := HKL.out
        have hown12 : w11.ownsRow B0 56 4 (.slice pp2 (k + 1) pc2) (k + 1) (pcells (ps ++ [(key, (kd : Int), nm - 1099511627776, ⟨#[]⟩)])) := by rw [pcells_app]; exact hown11
        clear H10 hown10 hf10 he10 hat10 hw11 fE he9 hr9 hx9 hown9 hg9 HPV HRS9 f11 hown11 hps
        go_roundw
        case rel => exact ⟨k + 1, ps ++ [(key, (kd : Int), nm - 1099511627776, ⟨#[]⟩)], s9, pp2, pc2, hkm, by go_num, by simp [HPL.out], he11, hown12, hsm1, Lib.hid hrp, rs11, hx11, hr11, hg11, hz11⟩
        case measure => simp [intOf]; omega
      · have hkb : ((kd : Int) == 1) = false := by simpa using (by omega : ¬ (kd : Int) = 1)
        have hpp : propP st = ((key, (kd : Int), 0, (wordP s7).1), (wordP s7).2) := by
          rw [propP, ← HS6.out, ← HKEY.out, ← HKD.out, ← HS7.out, if_neg hkd1]
        obtain ⟨tx, htx⟩ : ∃ tx, tx = (wordP s7).1 := ⟨_, rfl⟩
        obtain ⟨s9, hs9⟩ : ∃ s9, s9 = (wordP s7).2 := ⟨_, rfl⟩
        rw [← htx, ← hs9] at hpp
        have HPP := Lib.hid hpp
        have HC9 := Lib.hid (rtext_any _ s7 X8 rq8)
        rw [← htx, ← hs9] at HC9
        clear hkd1 hpp htx hs9 rq8
        go_wp2_with fail
        refine HC9.out.mono ?_
        rintro e X9 ⟨rfl, rv9, fv9⟩
        have pv9 := (fv9.block _ (heap_lt pa8) (by omega)).trans pa8
        have x3 := (cells4 pv9).2.2.2
        have y3 : X9.frozen? ⟨A, 3, none⟩ = false := by unfold World.frozen?; rw [pv9]; simp
        go_upto_region 18 with fail
        obtain ⟨w9, hw9⟩ : ∃ X : World, X = X9.setCell ⟨A, 3, none⟩ (.string tx) := ⟨_, rfl⟩
        rw [← hw9]
        have pA9 : w9.heap[A]? = some (.cells #[.string key, .int .i64 kd, .int .i64 0, .string tx] 56 (0, 0)) := by rw [hw9]; exact heap_setCell_at _ A 3 _ _ _ _ pv9
        have fA : Fr (fun q => q = A) X9 w9 := by rw [hw9]; exact (Fr.refl (fun q => q = A) X9).setCell (p := ⟨A, 3, none⟩) (.inl rfl) _
        have rs9 := rv9.fr fA (fun g e => by omega)
        have f9 : Fr (fun q => q = w.heap.size + 1) wr w9 := by rw [hw9]; exact (fr8.trans fv9 (fun _ _ h => h)).setCell (p := ⟨A, 3, none⟩) (.inr hAge) _
        have he9 := (f9.block _ (heap_lt HE0.out) (by omega)).trans HE0.out
        have hr9 := (f9.block _ (heap_lt HRr.out) (by omega)).trans HRr.out
        have hx9 := f9.cell (p := ⟨b, o, none⟩) hb.1 HX0.out
        have hown9 := f9.ownsRow HOWN.out (fun g hg e => by have := (HOWN.out.lt g hg).1; omega)
        have hg9 := g_of_fr HG0.out f9 (fun k hk => by omega)
        have hz9 := Nat.le_trans hz f9.size
        obtain ⟨z0, z1, z2, z3⟩ := cells4 pA9
        obtain ⟨-, -, -, -, e4⟩ := cells5 he9
        have HPV := Lib.hid (And.intro he9 (And.intro hr9 (And.intro hx9 (And.intro hown9 hg9))))
        have HRS9 := Lib.hid rs9
        clear q0 q1 q2 q3 x3 y3 hw9 pA9 fA rv9 fv9 rs9 f9 pv9 pa8 fr8 he9 hr9 hx9 hown9 hg9 HC9
        go_wp2_with (at_builtin; go_loud (refine wpList_append2 _ rfl _ _ 25 rfl B0 56 j0 (.agg #[.string ⟨#[]⟩, .int .i64 0, .int .i64 0, .string ⟨#[]⟩]) 4 48 Try.underlying25 hj hy0 hy1 hy2 rfl (by decide) (.slice pp k pc) k (pcells ps) rfl (((G.refl w9).alloc _).ownsRow HPV.out.2.2.2.1) ⟨w9.heap.size, 0, none⟩ 1 1 (#[.string key, .int .i64 kd, .int .i64 0, .string tx]).toList rfl rfl (World.news_of_block (cs := #[.string key, .int .i64 kd, .int .i64 0, .string tx]) (t := 56) (fr := (0, 0)) (alloc_new w9 _)) (by simp [Value.oneCell']) (by unfold maxLen; omega) (by omega) (by simp; omega) ?_); intro v2 w10 hown10 hgrow10 hnil10 hat10; obtain ⟨pp2, pc2, rfl⟩ := ownsRow_shape hown10; have hf10 : Fr (fun q => (Value.slice pp k pc).ownBlock = some q) w9 w10 := (((G.refl w9).alloc _).fr _).trans (grownBy_fr hgrow10) (fun _ _ h => h); have hn10 : ¬ (Value.slice pp k pc).ownBlock = some (w.heap.size + 2) := (fun e => by have := (HPV.out.2.2.2.1.lt _ e).1; omega); have he10 := (hf10.block _ (heap_lt HPV.out.1) hn10).trans HPV.out.1; obtain ⟨-, -, -, -, t4⟩ := cells5 he10; have u4 : w10.frozen? ⟨w.heap.size + 2, 4, none⟩ = false := (by unfold World.frozen?; rw [he10]; simp); have H10 := Lib.hid (And.intro hown10 (And.intro hf10 (And.intro he10 hat10))); clear hown10 hf10 hgrow10 hnil10 hat10 he10 hn10)
        obtain ⟨hown10, hf10, he10, hat10⟩ := H10.out
        obtain ⟨w11, hw11⟩ : ∃ X : World, X = w10.setCell ⟨w.heap.size + 2, 4, none⟩ (.slice pp2 (k + 1) pc2) := ⟨_, rfl⟩
        rw [← hw11]
        have fE : Fr (fun q => q = w.heap.size + 2) w10 w11 := by rw [hw11]; exact (Fr.refl (fun q => q = w.heap.size + 2) w10).setCell (p := ⟨w.heap.size + 2, 4, none⟩) (.inl rfl) _
        have he11 : w11.heap[w.heap.size + 2]? = some (.cells #[.string f, .string t, .string lb, .int .i64 tm, .slice pp2 (k + 1) pc2] 27 (0, 0)) := by rw [hw11]; exact heap_setCell_at _ _ 4 _ _ _ _ he10
        obtain ⟨he9, hr9, hx9, hown9, hg9⟩ := HPV.out
        have hlo : ∀ g, (Value.slice pp k pc).ownBlock = some g → B0 ≤ g := fun g hg => (hown9.lt g hg).1
        have rs11 := (HRS9.out.fr hf10 (fun g e => by have := hlo g e; omega)).fr fE (fun g e => by omega)
        have f11 : Fr (fun q => (Value.slice pp k pc).ownBlock = some q ∨ q = w.heap.size + 2) w9 w11 := (hf10.mono (fun _ h => .inl h)).trans fE (fun _ _ h => .inr h)
        have hn11 : ∀ q, q < B0 → q ≠ w.heap.size + 2 → ¬ ((Value.slice pp k pc).ownBlock = some q ∨ q = w.heap.size + 2) := fun q hq hq2 e => by rcases e with e | e; have := hlo q e; omega; omega
        have hx11 := f11.cell (p := ⟨b, o, none⟩) (hn11 b (by omega) hb.2) hx9
        have hr11 := (f11.block _ (heap_lt hr9) (hn11 _ (by omega) (by omega))).trans hr9
        have hg11 := g_of_fr hg9 f11 (fun q e => by rcases e with e | e; have := hlo q e; omega; omega)
        have hown11 := fE.ownsRow hown10 (fun g hg e => by have := (hown10.lt g hg).1; omega)
        have hz11 := Nat.le_trans hz9 f11.size
        have hps : (propP st).1 = (key, (kd : Int), 0, tx) := by rw [HPP.out]
        have hrp : rdP m0 ([], s5) = rdP (m0 - (k + 1)) (ps ++ [(key, (kd : Int), 0, tx)], s9) := by
          rw [HRP.out, show m0 - k = (m0 - (k + 1)) + 1 from by have := HKL.out; omega, rdP, HPP.out]
        have hsm1 : PSmall (ps ++ [(key, (kd : Int), 0, tx)]) := by rw [← hps]; exact hsm.snoc st
        have hkm : k + 1 ≤ m0 := HKL.out
        have hown12 : w11.ownsRow B0 56 4 (.slice pp2 (k + 1) pc2) (k + 1) (pcells (ps ++ [(key, (kd : Int), 0, tx)])) := by rw [pcells_app]; exact hown11
        clear H10 hown10 hf10 he10 hat10 hw11 fE he9 hr9 hx9 hown9 hg9 HPV HRS9 f11 hown11 hps
        go_roundw
        case rel => exact ⟨k + 1, ps ++ [(key, (kd : Int), 0, tx)], s9, pp2, pc2, hkm, by go_num, by simp [HPL.out], he11, hown12, hsm1, Lib.hid hrp, rs11, hx11, hr11, hg11, hz11⟩
        case measure => simp [intOf]; omega
    · have hkm : k = m0 := by omega
      rw [hkm, Nat.sub_self] at HRP
      have HE2 := Lib.hid (show edgeP l = ((f, t, lb, tm, ps), st) by rw [HE.out, HRP.out]; rfl)
      have hltI : ¬ (k : Int) < (m0 : Int) := by omega
      obtain ⟨R, hRR⟩ : ∃ R, R = w.heap.size := ⟨_, rfl⟩
      have HRR := Lib.hid hRR
      have hRlt : R < wr.heap.size := by rw [hRR]; exact heap_lt hr
      rw [← hRR] at hr ⊢
      obtain ⟨bad, left⟩ := st
      obtain ⟨rp, rc, b1, -, -, -, -⟩ := hrq
      simp only at b1
      obtain ⟨n, hn⟩ : ∃ n, n = left.length := ⟨_, rfl⟩
      rw [← hn] at b1
      obtain ⟨k0, k1, -, -⟩ := cells2 b1
      rw [← hRR] at k0 k1
      obtain ⟨x0, x1, x2, x3, x4⟩ := cells5 hr
      have cf := fun j => (show wr.frozen? ⟨R, j, none⟩ = false by unfold World.frozen?; rw [hr]; simp)
      have y0 := cf 0
      have y1 := cf 1
      have y2 := cf 2
      have y3 := cf 3
      have y4 := cf 4
      rw [← hRR] at he
      obtain ⟨e0, e1, e2, e3, e4⟩ := cells5 he
      have HOWN := Lib.hid hown
      have HR := Lib.hid hr
      have hd : doneP (bad, left) = (!bad && decide (n = 0)) := by rw [hn]; rfl
      have hat : EdgAt wr ⟨f, t, lb, tm, .slice pp k pc, ps⟩ := ⟨by show Rdr wr 4 (.slice pp k pc) ps.length (pcells ps); rw [hpl]; exact rdr_of_owns hown, by show ps.length ≤ _; omega, hsm.sz, by have := HSZ.out; unfold maxLen; show f.size ≤ _; omega, by have := HSZ.out; unfold maxLen; show t.size ≤ _; omega, by have := HSZ.out; unfold maxLen; show lb.size ≤ _; omega⟩
      obtain ⟨ck, hck⟩ : ∃ ck, ck = checkP f t lb tm ps := ⟨_, rfl⟩
      have HCK := Lib.hid (rCheck_any _ wr hat)
      rw [show checkE ⟨f, t, lb, tm, .slice pp k pc, ps⟩ = ck by rw [hck]; rfl] at HCK
      unfold ev at HCK
      simp only at HCK
      have HAT := Lib.hid hat
      have hok : okP l = ((!bad && decide (n = 0)) && decide (ck = 0)) := by rw [okP, HE2.out, hd, hck]
      have HOK := Lib.hid hok
      have HKM := Lib.hid hkm
      have HPL := Lib.hid hpl
      clear cf hown hr he b1 HRP hd hRR hkm hpl hk hlt hat hck hok hn
      have bad_end : ∀ (w3 : World), G wr w3 → okP l = false → ∃ E : Edg, Ending.returned (.tuple #[.agg #[.string ⟨#[]⟩, .string ⟨#[]⟩, .string ⟨#[]⟩, .int .i64 0, .slice none 0 0], .int .i64 4]) = .returned (.tuple #[ev E, .int .i64 (errP l)]) ∧ outE E = outP l ∧ EdgAt (((((w3.setCell ⟨R, 0, none⟩ (.string ⟨#[]⟩)).setCell ⟨R, 1, none⟩ (.string ⟨#[]⟩)).setCell ⟨R, 2, none⟩ (.string ⟨#[]⟩)).setCell ⟨R, 3, none⟩ (.int .i64 0)).setCell ⟨R, 4, none⟩ (.slice none 0 0)) E ∧ G w (((((w3.setCell ⟨R, 0, none⟩ (.string ⟨#[]⟩)).setCell ⟨R, 1, none⟩ (.string ⟨#[]⟩)).setCell ⟨R, 2, none⟩ (.string ⟨#[]⟩)).setCell ⟨R, 3, none⟩ (.int .i64 0)).setCell ⟨R, 4, none⟩ (.slice none 0 0)) := by
        intro w3 hg3 hO
        have hr3 := (hg3.block hRlt).trans HR.out
        obtain ⟨hgF, hrF⟩ := set5 (hg.trans hg3) (show w.heap.size ≤ R by have := HRR.out; omega) hr3 (.string ⟨#[]⟩) (.string ⟨#[]⟩) (.string ⟨#[]⟩) (.int .i64 0) (.slice none 0 0)
        exact ⟨zeroE, by rw [errP, hO]; rfl, by rw [outP, hO]; rfl, zeroE_at _, hgF⟩
      have BE := Lib.hid bad_end
      clear bad_end
      cases bad
      · by_cases hn0 : n = 0
        · by_cases hc0 : ck = 0
          · have HO := Lib.hid (show okP l = true by rw [HOK.out, hn0, hc0]; rfl)
            subst hc0
            have hn1 : ¬ (0 : Int) < (n : Int) := by omega
            clear hn0
            go_wp2_with fail
            refine HCK.out.mono ?_
            rintro e w3 ⟨rfl, hg3⟩
            have x0 := hg3.cell x0
            have x1 := hg3.cell x1
            have x2 := hg3.cell x2
            have x3 := hg3.cell x3
            have x4 := hg3.cell x4
            have e0 := hg3.cell e0
            have e1 := hg3.cell e1
            have e2 := hg3.cell e2
            have e3 := hg3.cell e3
            have e4 := hg3.cell e4
            have hr3 := (hg3.block hRlt).trans HR.out
            have y0 : w3.frozen? ⟨R, 0, none⟩ = false := by unfold World.frozen?; rw [hr3]; simp
            have y1 : w3.frozen? ⟨R, 1, none⟩ = false := by unfold World.frozen?; rw [hr3]; simp
            have y2 : w3.frozen? ⟨R, 2, none⟩ = false := by unfold World.frozen?; rw [hr3]; simp
            have y3 : w3.frozen? ⟨R, 3, none⟩ = false := by unfold World.frozen?; rw [hr3]; simp
            have y4 : w3.frozen? ⟨R, 4, none⟩ = false := by unfold World.frozen?; rw [hr3]; simp
            obtain ⟨hgF, hrF⟩ := set5 (hg.trans hg3) (show w.heap.size ≤ R by have := HRR.out; omega) hr3 (.string f) (.string t) (.string lb) (.int .i64 tm) (.slice pp k pc)
            obtain ⟨q0, q1, q2, q3, q4⟩ := cells5 hrF
            have hatF := (HAT.out.g hg3).fr ((((((Fr.refl (fun q => q = R) w3).setCell (p := ⟨R, 0, none⟩) (.inl rfl) (.string f)).setCell (p := ⟨R, 1, none⟩) (.inl rfl) (.string t)).setCell (p := ⟨R, 2, none⟩) (.inl rfl) (.string lb)).setCell (p := ⟨R, 3, none⟩) (.inl rfl) (.int .i64 tm)).setCell (p := ⟨R, 4, none⟩) (.inl rfl) (.slice pp k pc)) (fun g hgg e => by have := (HOWN.out.lt g hgg).1; have := HRR.out; omega)
            clear HR hr3 hrF HCK BE
            go_wp2_with fail
            refine bodyPost_ret (v := .tuple #[.agg #[.string f, .string t, .string lb, .int .i64 tm, .slice pp k pc], .int .i64 0]) ?_ rfl ⟨⟨f, t, lb, tm, .slice pp k pc, ps⟩, by rw [errP, HO.out]; rfl, by rw [outP, HO.out, HE2.out]; rfl, hatF, hgF⟩
            simp [results, Try.results12, go_sem, q0, q1, q2, q3, q4]
          · have HO := Lib.hid (show okP l = false by rw [HOK.out, hn0]; simpa using hc0)
            have hc1 : (ck != 0) = true := by simpa using hc0
            have hn1 : ¬ (0 : Int) < (n : Int) := by omega
            clear hn0 hc0
            go_wp2_with fail
            refine HCK.out.mono ?_
            rintro e w3 ⟨rfl, hg3⟩
            have x0 := hg3.cell x0
            have x1 := hg3.cell x1
            have x2 := hg3.cell x2
            have x3 := hg3.cell x3
            have x4 := hg3.cell x4
            have hr3 := (hg3.block hRlt).trans HR.out
            have y0 : w3.frozen? ⟨R, 0, none⟩ = false := by unfold World.frozen?; rw [hr3]; simp
            have y1 : w3.frozen? ⟨R, 1, none⟩ = false := by unfold World.frozen?; rw [hr3]; simp
            have y2 : w3.frozen? ⟨R, 2, none⟩ = false := by unfold World.frozen?; rw [hr3]; simp
            have y3 : w3.frozen? ⟨R, 3, none⟩ = false := by unfold World.frozen?; rw [hr3]; simp
            have y4 : w3.frozen? ⟨R, 4, none⟩ = false := by unfold World.frozen?; rw [hr3]; simp
            obtain ⟨hgF, hrF⟩ := set5 (hg.trans hg3) (show w.heap.size ≤ R by have := HRR.out; omega) hr3 (.string ⟨#[]⟩) (.string ⟨#[]⟩) (.string ⟨#[]⟩) (.int .i64 0) (.slice none 0 0)
            obtain ⟨q0, q1, q2, q3, q4⟩ := cells5 hrF
            have BF := Lib.hid (BE.out w3 hg3 HO.out)
            clear HR hr3 hrF HCK BE
            go_wp2_with fail
            refine bodyPost_ret (v := .tuple #[.agg #[.string ⟨#[]⟩, .string ⟨#[]⟩, .string ⟨#[]⟩, .int .i64 0, .slice none 0 0], .int .i64 4]) ?_ rfl BF.out
            simp [results, Try.results12, go_sem, q0, q1, q2, q3, q4]
        · have HO := Lib.hid (show okP l = false by rw [HOK.out]; simp [hn0])
          have hn1 : 0 < n := by omega
          clear hn0
          obtain ⟨hgF, hrF⟩ := set5 (hg.trans (G.refl wr)) (show w.heap.size ≤ R by have := HRR.out; omega) HR.out (.string ⟨#[]⟩) (.string ⟨#[]⟩) (.string ⟨#[]⟩) (.int .i64 0) (.slice none 0 0)
          obtain ⟨q0, q1, q2, q3, q4⟩ := cells5 hrF
          have BF := Lib.hid (BE.out wr (G.refl wr) HO.out)
          clear HR hrF HCK BE
          go_wp2_with fail
          refine bodyPost_ret (v := .tuple #[.agg #[.string ⟨#[]⟩, .string ⟨#[]⟩, .string ⟨#[]⟩, .int .i64 0, .slice none 0 0], .int .i64 4]) ?_ rfl BF.out
          simp [results, Try.results12, go_sem, q0, q1, q2, q3, q4]
      · have HO := Lib.hid (show okP l = false by rw [HOK.out]; rfl)
        obtain ⟨hgF, hrF⟩ := set5 (hg.trans (G.refl wr)) (show w.heap.size ≤ R by have := HRR.out; omega) HR.out (.string ⟨#[]⟩) (.string ⟨#[]⟩) (.string ⟨#[]⟩) (.int .i64 0) (.slice none 0 0)
        obtain ⟨q0, q1, q2, q3, q4⟩ := cells5 hrF
        have BF := Lib.hid (BE.out wr (G.refl wr) HO.out)
        clear HR hrF HCK BE
        go_wp2_with fail
        refine bodyPost_ret (v := .tuple #[.agg #[.string ⟨#[]⟩, .string ⟨#[]⟩, .string ⟨#[]⟩, .int .i64 0, .slice none 0 0], .int .i64 4]) ?_ rfl BF.out
        simp [results, Try.results12, go_sem, q0, q1, q2, q3, q4]
end Go.Proofs.Ytfdajignnnhnmaa
