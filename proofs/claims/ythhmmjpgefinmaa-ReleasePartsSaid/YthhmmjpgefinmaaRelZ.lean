/- ReleaseParts: the walk -/
import Derived.Test.YthhmmjpgefinmaaRelN
import Derived.Test.YthhmmjpgefinmaaRelK
import Derived.Test.YthhmmjpgefinmaaBufL
set_option maxRecDepth 10000
namespace Go.Proofs.Ythhmmjpgefinmaa
set_option linter.unusedVariables false
set_option linter.unusedSimpArgs false
open Go.RowKit Go.Shelf
attribute [local go_sem] Oper.semAt_some

/-- events in blocks of their own -/
structure EvR (W : World) (lo : Nat) (u : Value) (n : Nat) (X : List EV) : Prop where
  row : W.ownsRow lo 53 8 u n (vcs X)
  own : ∀ x ∈ X, OwnE W lo x.e.1
theorem EvR.fr {T : Nat → Prop} {W W' : World} {lo n : Nat} {u : Value} {X : List EV} (h : EvR W lo u n X) (hf : Fr T W W') (hT : ∀ k, lo ≤ k → k < W.heap.size → ¬ T k) : EvR W' lo u n X :=
  ⟨hf.ownsRow h.row (fun g hg => hT g (h.row.lt g hg).1 (h.row.lt g hg).2), fun x hx => (h.own x hx).fr hf (fun g hg => hT g ((h.own x hx).own.lt g hg).1 ((h.own x hx).own.lt g hg).2)⟩
theorem EvR.g {W W' : World} {lo n : Nat} {u : Value} {X : List EV} (h : EvR W lo u n X) (hg : G W W') : EvR W' lo u n X := h.fr (hg.fr (fun _ => False)) (fun _ _ _ => id)
theorem vcs_one : ∀ (l : List EV), ∀ u ∈ vcs l, u.oneCell' = true
  | [], u, h => by cases h
  | x :: l, u, h => by
    simp only [vcs, List.mem_cons] at h
    rcases h with rfl | rfl | rfl | rfl | rfl | rfl | rfl | rfl | h
    · rfl
    · rfl
    · rfl
    · rfl
    · rfl
    · obtain ⟨p, n, c, hv⟩ := x.e.2
      rw [hv]; rfl
    · rfl
    · rfl
    · exact vcs_one l u h
theorem slots_take {W : World} {b o m c r : Nat} {l : List Slt} (h : Rdr W 2 (.slice (some ⟨b, o, none⟩) m c) m (icells l)) (hm : m = l.length) (hr : r ≤ m) (c' : Nat) : Rdr W 2 (.slice (some ⟨b, o, none⟩) r c') r (icells (l.take r)) := by
  refine ⟨by rw [icells_len, List.length_take]; omega, some ⟨b, o, none⟩, c', rfl, fun h0 => ⟨b, o, rfl, fun j u hu => ?_⟩⟩
  obtain ⟨b2, o2, e, hc⟩ := h.one (by omega)
  cases e
  refine hc j u ?_
  have h1 : icells l = icells (l.take r) ++ icells (l.drop r) := by rw [← icells_app, List.take_append_drop]
  rw [h1, List.getElem?_append_left (List.getElem?_eq_some_iff.1 hu).1]
  exact hu
theorem slots_drop {W : World} {b o m c k : Nat} {l : List Slt} {p : Option Addr} (h : Rdr W 2 (.slice (some ⟨b, o, none⟩) m c) m (icells l)) (hm : m = l.length) (hk : k ≤ m) (hp : k < m → p = some ⟨b, o + k * 2, none⟩) (c' : Nat) : Rdr W 2 (.slice p (m - k) c') (m - k) (icells (l.drop k)) := by
  refine ⟨by rw [icells_len, List.length_drop]; omega, p, c', rfl, fun h0 => ⟨b, o + k * 2, hp (by omega), fun j u hu => ?_⟩⟩
  obtain ⟨b2, o2, e, hc⟩ := h.one (by omega)
  cases e
  have h1 : icells l = icells (l.take k) ++ icells (l.drop k) := by rw [← icells_app, List.take_append_drop]
  have h2 : (icells (l.take k)).length = k * 2 := by rw [icells_len, List.length_take]; omega
  have h3 := hc (k * 2 + j) u (by rw [h1, List.getElem?_append_right (by omega), h2, show k * 2 + j - k * 2 = j by omega]; exact hu)
  rw [← Nat.add_assoc] at h3
  exact h3
theorem infoSl : (Try.prog.info? 55).map (fun i => (i.zero, i.size, i.bytes)) = some (some (.agg #[.int .i64 0, .int .i64 0]), 2, 16) := by kernel_rfl
set_option maxHeartbeats 16000000 in
theorem parts_any (L : List Edg) (a mb b : Int) (l : List Slt) (kk : Int) (v0 v4 : Value) (w : World) (h0 : RdrE w v0 L) (ht : ∀ E ∈ L, InR E.tm) (hn : L.length ≤ 4398046511104) (h4 : RdrS w v4 l) (hnl : l.length ≤ 8796093022208) (hcap : ∀ p n c, v4 = .slice p n c → n ≤ c ∧ c ≤ maxLen) :
    Calls Try.prog 4 #[v0, .int .i64 a, .int .i64 mb, .int .i64 b, v4, .int .i64 kk] w fun e w' => e = .returned (.bool true) ∧ G w w' := by
  obtain ⟨p4, c4, hv4⟩ := h4.shape
  obtain ⟨p0, c0, hv0⟩ := h0.shape
  obtain ⟨m, hm⟩ : ∃ m, m = l.length := ⟨_, rfl⟩
  obtain ⟨mL, hmL⟩ : ∃ mL, mL = L.length := ⟨_, rfl⟩
  rw [← hm] at hv4
  rw [← hmL] at hv0
  subst hv4
  subst hv0
  obtain ⟨hmc, hcM⟩ := hcap _ _ _ rfl
  clear hcap
  have hcM2 : c4 ≤ 9223372036854775807 := hcM
  clear hcM
  have H0 := Lib.hid h0
  have H4 := Lib.hid h4
  have HT := Lib.hid ht
  have HM := Lib.hid hm
  have HML := Lib.hid hmL
  have hmn : m ≤ 8796093022208 := by omega
  obtain ⟨nn, e, hcv⟩ : ∃ n e, cntV a b l = (n, e) := ⟨_, _, rfl⟩
  have hct : cntT a b l = .tuple #[.int .i64 nn, .int .i64 e] := by unfold cntT; rw [hcv]
  have HCT : Hid (∀ X, G w X → Calls Try.prog 7 #[.int .i64 a, .int .i64 b, .slice p4 m c4] X fun e' w' => e' = .returned (.tuple #[.int .i64 nn, .int .i64 e]) ∧ G X w') := Lib.hid (fun X hX => by
    have := rcount_any a b l _ X (h4.g hX) (by omega)
    rw [hct] at this; exact this)
  have HSZ := Lib.hid (fun (X : World) (hX : G w X) => lsize_any L _ X (h0.g hX) hn)
  have HCV := Lib.hid hcv
  clear h0 h4 ht hm hmL hct hcv hn hnl
  go_enter Try.func4, Try.ntmps4
  go_wp2_with fail
  refine (awake_any w).mono ?_
  rintro e0 w1 ⟨rfl, hg1⟩
  go_wp2_with fail
  refine (HCT.out w1 hg1).mono ?_
  rintro e0 w2 ⟨rfl, hg2⟩
  have hgw2 := hg1.trans hg2
  clear HCT
  go_wp2_with fail
  refine (HSZ.out w2 hgw2).mono ?_
  rintro e0 w2' ⟨sz, rfl, hszb, hsz, rfl⟩
  by_cases hsm : sz + m ≤ 120
  · have hsmI : ¬ (120 : Int) < (sz : Int) + (m : Int) := by omega
    by_cases he : e = 0
    · subst he
      by_cases hn3 : nn ≤ 300
      · have hn3' : ¬ (300 : Int) < nn := by omega
        by_cases hab : a ≤ mb
        · have hab' : ¬ mb < a := by omega
          by_cases hbb : mb ≤ b
          · have hbb' : ¬ b < mb := by omega
            have hPU : Puts L := ⟨by have := (hsz (by omega)).1; omega, fun E hE => ⟨HT.out E hE, by have := (hsz (by omega)).2 E hE; omega⟩⟩
            have hL120 : L.length ≤ 120 := by have := (hsz (by omega)).1; omega
            have HPU := Lib.hid hPU
            obtain ⟨s, hs⟩ : ∃ s, s = fillO L := ⟨_, rfl⟩
            have HSO : Hid (OStr s ∧ s.length ≤ 120 ∧ (∀ o ∈ s, o.2.2.2.2.length ≤ 1000000)) := Lib.hid (by
              rw [hs]
              exact ⟨fillO_str L, by have := fillO_len L; omega, hPU.each⟩)
            have HFI : Hid (∀ X, G w X → Calls Try.prog 15 #[.slice p0 mL c0] X fun e' w' => ∃ B S P, e' = .returned (.pointer (some ⟨B, 0, none⟩)) ∧ BufNow S P B s w' ∧ (∀ k, S k ∨ P k → X.heap.size ≤ k) ∧ G X w') := Lib.hid (fun X hX => by
              have h1 := filled_any L _ X (H0.out.g hX) hPU
              unfold FillOut at h1
              rw [← hs] at h1
              exact h1)
            clear hsz hPU hL120 HSZ HT hs HPU
            go_wp2_with fail
            refine (HFI.out w2 hgw2).mono ?_
            rintro e0 w3 ⟨B1, S1, P1, rfl, hb1, hnew1, hg3⟩
            have hgw3 := hgw2.trans hg3
            go_wp2_with fail
            refine (HFI.out w3 hgw3).mono ?_
            rintro e0 w4 ⟨B2, S2, P2, rfl, hb2, hnew2, hg4⟩
            have hgw4 := hgw3.trans hg4
            go_wp2_with fail
            refine (HFI.out w4 hgw4).mono ?_
            rintro e0 w5 ⟨B3, S3, P3, rfl, hb3, hnew3, hg5⟩
            have hgw5 := hgw4.trans hg5
            have HBS : Hid ((BufNow S1 P1 B1 s w5 ∧ (∀ k, S1 k ∨ P1 k → w2.heap.size ≤ k ∧ k < w3.heap.size)) ∧ (BufNow S2 P2 B2 s w5 ∧ (∀ k, S2 k ∨ P2 k → w3.heap.size ≤ k ∧ k < w4.heap.size)) ∧ (BufNow S3 P3 B3 s w5 ∧ (∀ k, S3 k ∨ P3 k → w4.heap.size ≤ k ∧ k < w5.heap.size))) := Lib.hid ⟨⟨(hb1.g hg4).g hg5, fun k hk => ⟨hnew1 k hk, hb1.lt k hk⟩⟩, ⟨hb2.g hg5, fun k hk => ⟨hnew2 k hk, hb2.lt k hk⟩⟩, hb3, fun k hk => ⟨hnew3 k hk, hb3.lt k hk⟩⟩
            have hz2 := hgw2.size
            have hz3 := hg3.size
            have hz4 := hg4.size
            have hz5 := hg5.size
            -- the law
            have hok : (cntV a b l).2 = 0 := by rw [HCV.out]
            obtain ⟨hok1, hok2, hsplit⟩ := parts_law (s := s) hok hab hbb
            obtain ⟨E1, hE1⟩ : ∃ E1, E1 = evP a b l s := ⟨_, rfl⟩
            obtain ⟨E2, hE2⟩ : ∃ E2, E2 = evP a mb l s := ⟨_, rfl⟩
            obtain ⟨E3, hE3⟩ : ∃ E3, E3 = evP mb b l (s.drop (nE E2)) := ⟨_, rfl⟩
            have hlen : E1.length ≤ 420 := by
              rw [hE1]; unfold evP; rw [if_pos hok]
              have h1 := evL_len (closesD a b l) s b
              have h2 := (cntV_ok (n := nn) (by rw [HCV.out])).2.1
              have h3 := HSO.out.2.1
              omega
            have hcat : E1 = E2 ++ E3 := by rw [hE1, hE3, hE2]; exact hsplit
            have HE : Hid (E1 = evP a b l s ∧ E2 = evP a mb l s ∧ E3 = evP mb b l (s.drop (nE E2)) ∧ E1 = E2 ++ E3 ∧ E1.length ≤ 420) := Lib.hid ⟨hE1, hE2, hE3, hcat, hlen⟩
            have HOK := Lib.hid hok
            have HTD : Hid (∀ (S P : Nat → Prop) (B : Nat) (s' : List Out) (x y : Int) (X : World), BufNow S P B s' X → G w X → s'.length ≤ 120 → (∀ o ∈ s', o.2.2.2.2.length ≤ 1000000) → (∀ k, S k → w.heap.size ≤ k) → Calls Try.prog 16 #[.pointer (some ⟨B, 0, none⟩), .int .i64 x, .int .i64 y, .int .i64 1000, .slice p4 m c4] X (ToldOut S P B s' x y l 1000 X)) := Lib.hid (fun S P B s' x y X h1 h2 h3 h4' h5 =>
              told_any S P B s' x y l _ 1000 X h1 (H4.out.g h2) (by have := HM.out; omega) (by omega) h4' (fun h0 g hg hs => by
                have h6 := H4.out.lt h0 (by omega) g hg
                have h7 := h5 g hs
                omega) (by omega))
            clear hb1 hb2 hb3 hnew1 hnew2 hnew3 hgw3 hgw4 hok hok1 hok2 hsplit hE1 hE2 hE3 hcat hlen hg1 hg2 hg3 hg4 hg5
            go_wp2_with fail
            refine (HTD.out S1 P1 B1 s a b w5 HBS.out.1.1 hgw5 HSO.out.2.1 HSO.out.2.2 (fun k hk => by have := (HBS.out.1.2 k (.inl hk)).1; omega)).mono ?_
            rintro e0 w6 ⟨u1, X1, rfl, hown1, hX1, hEE1, -, hbb1, hf6⟩
            rw [← HE.out.1, List.take_of_length_le (by have := HE.out.2.2.2.2; omega)] at hX1 hbb1
            obtain ⟨n1, hn1⟩ : ∃ n1, n1 = X1.length := ⟨_, rfl⟩
            rw [← hn1] at hown1
            obtain ⟨q1, d1, rfl⟩ := ownsRow_shape hown1
            have hgw6 : G w w6 := g_of_fr hgw5 hf6 (fun k hk => by have := (HBS.out.1.2 k (.inl hk)).1; omega)
            have hz6 := hf6.size
            have HX1 : Hid (EvR w6 w5.heap.size (.slice q1 n1 d1) n1 X1 ∧ n1 = X1.length ∧ X1.map outV = E1 ∧ n1 ≤ 420 ∧ BufNow S1 P1 B1 (s.drop (nE E1)) w6 ∧ BufNow S2 P2 B2 s w6 ∧ BufNow S3 P3 B3 s w6) := Lib.hid ⟨⟨hown1, hEE1⟩, hn1, hX1, by rw [hn1]; have h1 := HE.out.2.2.2.2; rw [← hX1, List.length_map] at h1; exact h1, hbb1,
              HBS.out.2.1.1.fr hf6 (fun k hk hs => by have h1 := (HBS.out.1.2 k (.inl hs)).2; have h2 := (HBS.out.2.1.2 k hk).1; omega), HBS.out.2.2.1.fr hf6 (fun k hk hs => by have h1 := (HBS.out.1.2 k (.inl hs)).2; have h2 := (HBS.out.2.2.2 k hk).1; omega)⟩
            clear hown1 hEE1 hX1 hbb1 hf6 hn1
            go_wp2_with fail
            refine (HTD.out S2 P2 B2 s a mb w6 HX1.out.2.2.2.2.2.1 hgw6 HSO.out.2.1 HSO.out.2.2 (fun k hk => by have := (HBS.out.2.1.2 k (.inl hk)).1; omega)).mono ?_
            rintro e0 w7 ⟨u2, X2, rfl, hown2, hX2, hEE2, -, hbb2, hf7⟩
            have hl2 : E2.length ≤ 420 := by have h1 := HE.out.2.2.2.2; rw [HE.out.2.2.2.1, List.length_append] at h1; omega
            rw [← HE.out.2.1, List.take_of_length_le (by omega)] at hX2 hbb2
            obtain ⟨n2, hn2⟩ : ∃ n2, n2 = X2.length := ⟨_, rfl⟩
            rw [← hn2] at hown2
            obtain ⟨q2, d2, rfl⟩ := ownsRow_shape hown2
            have hgw7 : G w w7 := g_of_fr hgw6 hf7 (fun k hk => by have := (HBS.out.2.1.2 k (.inl hk)).1; omega)
            have hz7 := hf7.size
            have HX2 : Hid (EvR w7 w6.heap.size (.slice q2 n2 d2) n2 X2 ∧ n2 = X2.length ∧ X2.map outV = E2 ∧ n2 ≤ 420 ∧ BufNow S2 P2 B2 (s.drop (nE E2)) w7 ∧ Fr S2 w6 w7) := Lib.hid ⟨⟨hown2, hEE2⟩, hn2, hX2, by rw [hn2]; rw [← hX2, List.length_map] at hl2; exact hl2, hbb2, hf7⟩
            clear hown2 hEE2 hX2 hbb2 hf7 hn2
            go_wp2_with fail
            refine (HTD.out S2 P2 B2 (s.drop (nE E2)) mb b w7 HX2.out.2.2.2.2.1 hgw7 (by rw [List.length_drop]; have := HSO.out.2.1; omega) (fun o ho => HSO.out.2.2 o (List.mem_of_mem_drop ho)) (fun k hk => by have := (HBS.out.2.1.2 k (.inl hk)).1; omega)).mono ?_
            rintro e0 w8 ⟨u3, X3, rfl, hown3, hX3, hEE3, -, hbb3, hf8⟩
            have hl3 : E3.length ≤ 420 := by have h1 := HE.out.2.2.2.2; rw [HE.out.2.2.2.1, List.length_append] at h1; omega
            rw [← HE.out.2.2.1, List.take_of_length_le (by omega)] at hX3 hbb3
            obtain ⟨n3, hn3⟩ : ∃ n3, n3 = X3.length := ⟨_, rfl⟩
            rw [← hn3] at hown3
            obtain ⟨q3, d3, rfl⟩ := ownsRow_shape hown3
            have hgw8 : G w w8 := g_of_fr hgw7 hf8 (fun k hk => by have := (HBS.out.2.1.2 k (.inl hk)).1; omega)
            have hz8 := hf8.size
            have hf68 : Fr S2 w6 w8 := HX2.out.2.2.2.2.2.trans hf8 (fun _ _ e => e)
            have HX3 : Hid (EvR w8 w7.heap.size (.slice q3 n3 d3) n3 X3 ∧ n3 = X3.length ∧ X3.map outV = E3 ∧ n3 ≤ 420 ∧ BufNow S2 P2 B2 ((s.drop (nE E2)).drop (nE E3)) w8 ∧ Fr S2 w6 w8 ∧ EvR w8 w6.heap.size (.slice q2 n2 d2) n2 X2 ∧ EvR w8 w5.heap.size (.slice q1 n1 d1) n1 X1) := Lib.hid ⟨⟨hown3, hEE3⟩, hn3, hX3, by rw [hn3]; rw [← hX3, List.length_map] at hl3; exact hl3, hbb3, hf68,
              HX2.out.1.fr hf8 (fun k h1 h2 hs => by have := (HBS.out.2.1.2 k (.inl hs)).2; omega), HX1.out.1.fr hf68 (fun k h1 h2 hs => by have := (HBS.out.2.1.2 k (.inl hs)).2; omega)⟩
            obtain ⟨iV, hi, hi0, hi1, hi2⟩ := info_parts infoV
            have hn2b := HX2.out.2.2.2.1
            have hn3b := HX3.out.2.2.2.1
            clear hown3 hEE3 hX3 hbb3 hf8 hn3 hf68
            go_upto_region 10 with (at_builtin; refine wpList_appendR _ rfl _ _ 44 rfl w6.heap.size 53 iV (.agg #[.bool false, .string ⟨#[]⟩, .string ⟨#[]⟩, .string ⟨#[]⟩, .int .i64 0, .slice none 0 0, .int .i64 0, .int .i64 0]) 8 104 Try.underlying44 hi hi0 hi1 hi2 rfl (by decide) (.slice q2 n2 d2) n2 (vcs X2) rfl HX3.out.2.2.2.2.2.2.1.row (.slice q3 n3 d3) n3 (vcs X3) rfl (rdr_of_owns HX3.out.1.row) (vcs_one _) (by unfold maxLen; omega) (by omega) (by omega) ?_; intro p9 c9 w9 hown9 hgrow9 hat9)
            have hf9 := grownBy_fr hgrow9
            have hu2 : ∀ g, (Value.slice q2 n2 d2).ownBlock = some g → w6.heap.size ≤ g ∧ g < w7.heap.size := fun g hg => HX2.out.1.row.lt g hg
            have hgw9 : G w w9 := g_of_fr hgw8 hf9 (fun k hk => by have := (hu2 k hk).1; omega)
            have hf69 : Fr S2 w6 w9 := HX3.out.2.2.2.2.2.1.trans hf9 (fun i hi e => by have := (hu2 i e).1; omega)
            have hz9 := hf9.size
            have hx1 : EvR w9 w5.heap.size (.slice q1 n1 d1) n1 X1 := HX1.out.1.fr hf69 (fun k h1 h2 hs => by have := (HBS.out.2.1.2 k (.inl hs)).2; omega)
            have hx2 : ∀ x ∈ X2, OwnE w9 w6.heap.size x.e.1 := fun x hx => (HX3.out.2.2.2.2.2.2.1.own x hx).fr hf9 (fun g hg e => apart_ev (HX3.out.2.2.2.2.2.2.1.own x hx) HX3.out.2.2.2.2.2.2.1.row e g hg rfl)
            have hx3 : EvR w9 w7.heap.size (.slice q3 n3 d3) n3 X3 := HX3.out.1.fr hf9 (fun k h1 h2 e => by have := (hu2 k e).2; omega)
            have HAL : Hid (∀ X, G w9 X → Calls Try.prog 17 #[.slice q1 n1 d1, .slice p9 (n2 + n3) c9] X fun e' w' => e' = .returned (.bool true) ∧ G X w') := Lib.hid (fun X hX => by
              refine alike_any X1 (X2 ++ X3) _ _ X ?_ ?_ (fun x hx => ((hx1.own x hx).g hX).at) (fun x hx => ?_) ?_ (by have := HX1.out.2.1; have := HX1.out.2.2.2.1; omega)
              · rw [← HX1.out.2.1]; exact rdr_of_owns (hX.ownsRow hx1.row)
              · rw [List.length_append, ← HX2.out.2.1, ← HX3.out.2.1, vcs_app]; exact rdr_of_owns (hX.ownsRow hown9)
              · rcases List.mem_append.1 hx with h | h
                · exact ((hx2 x h).g hX).at
                · exact ((hx3.own x h).g hX).at
              · rw [List.map_append, HX1.out.2.2.1, HX2.out.2.2.1, HX3.out.2.2.1]; exact HE.out.2.2.2.1)
            have hbb1 : BufNow S1 P1 B1 (s.drop (nE E1)) w9 := HX1.out.2.2.2.2.1.fr hf69 (fun k hk hs => by have h1 := (HBS.out.2.1.2 k (.inl hs)).1; have h2 := (HBS.out.1.2 k hk).2; omega)
            have hbb2 : BufNow S2 P2 B2 ((s.drop (nE E2)).drop (nE E3)) w9 := HX3.out.2.2.2.2.1.fr hf9 (fun k hk e => by have h1 := (hu2 k e).1; have h2 := (HBS.out.2.1.2 k hk).2; omega)
            have hbb3 : BufNow S3 P3 B3 s w9 := HX1.out.2.2.2.2.2.2.fr hf69 (fun k hk hs => by have h1 := (HBS.out.2.1.2 k (.inl hs)).2; have h2 := (HBS.out.2.2.2 k hk).1; omega)
            obtain ⟨Rr, hRr⟩ : ∃ Rr, Rr = (s.drop (nE E1)).length := ⟨_, rfl⟩
            have hRr2 : Rr = ((s.drop (nE E2)).drop (nE E3)).length := by rw [hRr, HE.out.2.2.2.1, nE_app, List.drop_drop]
            have hR120 : Rr ≤ 120 := by rw [hRr, List.length_drop]; have := HSO.out.2.1; omega
            have HL1 : Hid (∀ X, G w9 X → Calls Try.prog 18 #[.pointer (some ⟨B1, 0, none⟩)] X fun e' w' => e' = .returned (.int .i64 Rr) ∧ G X w') := Lib.hid (fun X hX => by
              obtain ⟨p1, hp1⟩ := hbb1
              have := blen_any S1 P1 B1 _ p1 X (hp1.g hX) (by omega)
              rw [← hRr] at this; exact this)
            have HL2 : Hid (∀ X, G w9 X → Calls Try.prog 18 #[.pointer (some ⟨B2, 0, none⟩)] X fun e' w' => e' = .returned (.int .i64 Rr) ∧ G X w') := Lib.hid (fun X hX => by
              obtain ⟨p1, hp1⟩ := hbb2
              have := blen_any S2 P2 B2 _ p1 X (hp1.g hX) (by omega)
              rw [← hRr2] at this; exact this)
            have HX9 : Hid (EvR w9 w5.heap.size (.slice q1 n1 d1) n1 X1 ∧ BufNow S3 P3 B3 s w9) := Lib.hid ⟨hx1, hbb3⟩
            clear hown9 hgrow9 hat9 hf9 hu2 hf69 hx1 hx2 hx3 hbb1 hbb2 hbb3 hRr hRr2 hR120 HX3 HX2 hgw8 hgw7 hgw6 hl2 hl3
            go_wp2_with fail
            refine (HAL.out w9 (G.refl _)).mono ?_
            rintro e0 w10 ⟨rfl, hg10⟩
            go_wp2_with fail
            refine (HL1.out w10 hg10).mono ?_
            rintro e0 w11 ⟨rfl, hg11⟩
            have hg911 := hg10.trans hg11
            go_wp2_with fail
            refine (HL2.out w11 hg911).mono ?_
            rintro e0 w12 ⟨rfl, hg12⟩
            have hg912 := hg911.trans hg12
            have hgw12 := hgw9.trans hg912
            have hz12 := hg912.size
            clear HAL HL1 HL2 hg10 hg11 hg12 hg911
            by_cases hm0 : m = 0
            · subst hm0
              go_wp2_with fail
              go_ret
              exact ⟨rfl, hgw12⟩
            · have hm0i : ¬ (m : Int) = 0 := by omega
              have hm0b : ((m : Int) == 0) = false := by simpa using hm0
              go_wp2_with fail
              refine (pick_any kk m w12 (by omega) (by omega)).mono ?_
              rintro e0 w12' ⟨⟨r, hrm, rfl⟩, rfl⟩
              have hrm2 : r < m := by omega
              have hrd4 : Rdr w12 2 (.slice p4 m c4) m (icells l) := by
                have h1 := H4.out.g hgw12
                unfold RdrS at h1
                rw [← HM.out] at h1; exact h1
              obtain ⟨bs, os, q, sq, hxs, rfl, s0, s1⟩ := RdrS.at hrd4 HM.out hrm2
              have hr0 : (0 : Int) ≤ (r : Int) := by omega
              have hrc : (r : Int) ≤ (c4 : Int) := by omega
              have hr1w : IntKind.i64.wrap ((r : Int) + 1) = (r : Int) + 1 := IntWalk.i64_in _ (by omega)
              have hr1c : (r : Int) + 1 ≤ (m : Int) := by omega
              go_upto_region 15 with fail
              refine region_hl (fun w' => G w12 w') 99 11 (by kernel_rfl) rfl ?_
              simp only [List.replicate_succ, List.replicate_zero]
              have hs0 : (fun w' : World => G w12 w') w12.drew := (G.refl w12).drew
              refine hl_take_np 1 (by kernel_rfl) (by kernel_rfl) rfl (by kernel_rfl) hs0 (v := ?_) ?_ ?_
              rotate_left
              · (rintro x hx; clear hx; go_simp; try rfl)
              simp only [Act.put, List.setIfInBounds_toArray, List.set_cons_zero, List.set_cons_succ]
              refine hl_take_np 2 (by kernel_rfl) (by kernel_rfl) rfl (by kernel_rfl) hs0 (v := ?_) ?_ ?_
              rotate_left
              · (rintro x hx; clear hx; go_simp; try rfl)
              simp only [Act.put, List.setIfInBounds_toArray, List.set_cons_zero, List.set_cons_succ]
              refine hl_take_np 3 (by kernel_rfl) (by kernel_rfl) rfl (by kernel_rfl) hs0 (v := ?_) ?_ ?_
              rotate_left
              · (rintro x hx; clear hx; go_simp; try rfl)
              simp only [Act.put, List.setIfInBounds_toArray, List.set_cons_zero, List.set_cons_succ]
              refine hl_take_np 5 (by kernel_rfl) (by kernel_rfl) rfl (by kernel_rfl) hs0 (v := ?_) ?_ ?_
              rotate_left
              · (rintro x hx; clear hx; go_simp; try rfl)
              simp only [Act.put, List.setIfInBounds_toArray, List.set_cons_zero, List.set_cons_succ]
              refine hl_take_np 6 (by kernel_rfl) (by kernel_rfl) rfl (by kernel_rfl) hs0 (v := ?_) ?_ ?_
              rotate_left
              · (rintro x hx; clear hx; go_simp; try rfl)
              simp only [Act.put, List.setIfInBounds_toArray, List.set_cons_zero, List.set_cons_succ]
              refine hl_take_np 7 (by kernel_rfl) (by kernel_rfl) rfl (by kernel_rfl) hs0 (v := ?_) ?_ ?_
              rotate_left
              · (rintro x hx; clear hx; go_simp; try rfl)
              simp only [Act.put, List.setIfInBounds_toArray, List.set_cons_zero, List.set_cons_succ]
              refine hl_take_np 8 (by kernel_rfl) (by kernel_rfl) rfl (by kernel_rfl) hs0 (v := ?_) ?_ ?_
              rotate_left
              · (rintro x hx; clear hx; go_simp; try rfl)
              simp only [Act.put, List.setIfInBounds_toArray, List.set_cons_zero, List.set_cons_succ]
              obtain ⟨pt, hpt⟩ : ∃ pt, pt = (if c4 = r + 1 then some (⟨bs, os, none⟩ : Addr) else some ⟨bs, os + (r + 1) * 2, none⟩) := ⟨_, rfl⟩
              rw [← hpt]
              have HTKR := Lib.hid (slots_take (r := r) hrd4 HM.out (by omega) c4)
              have HDRR := Lib.hid (slots_drop (k := r + 1) (p := pt) hrd4 HM.out (by omega) (fun h => by rw [hpt, if_neg (by omega)]) (c4 - (r + 1)))
              have HXS := Lib.hid hxs
              obtain ⟨jS, hj, hj0, hj1, hj2⟩ := info_parts infoSl
              clear hpt hrd4 hxs
              refine hl_step 0 (by kernel_rfl) rfl ?_
              go_wp2_with fail
              show _ ∧ _
              have hA : G w12 (w12.alloc (.cells #[] 55)).drew := ((G.refl w12).alloc _).drew
              have hmadeA : ((w12.alloc (.cells #[] 55)).drew).ownsRow w12.heap.size 55 2 (.slice (some ⟨w12.heap.size, 0, none⟩) 0 0) 0 [] := ((G.refl _).drew).ownsRow (World.ownsRow_made w12 #[] 0 (Nat.le_refl _) (Nat.zero_le _) rfl)
              have hszA := hA.size
              refine ⟨(by first | exact hA | exact fun _ => hA), ?_⟩
              refine hl_step 4 (by kernel_rfl) rfl ?_
              refine wpList_appendR _ rfl _ _ 22 rfl w12.heap.size 55 jS (.agg #[.int .i64 0, .int .i64 0]) 2 16 Try.underlying22 hj hj0 hj1 hj2 rfl (by decide) _ 0 [] rfl hmadeA (.slice (some ⟨bs, os, none⟩) r c4) r (icells (l.take r)) rfl (HTKR.out.g hA) (icells_one _) (by unfold maxLen; omega) (by omega) hszA ?_
              intro pA cA wB hownB hgrowB hatB
              have hB : G w12 wB := hA.grown hgrowB (fun k h => (hmadeA.lt k h).1)
              simp only [Nat.zero_add, List.nil_append] at hownB ⊢
              have HOB := Lib.hid hownB
              clear hgrowB hatB hownB hmadeA hA
              show _ ∧ _
              refine ⟨(by first | exact hB | exact fun _ => hB), ?_⟩
              refine hl_step 9 (by kernel_rfl) rfl ?_
              refine wpList_appendR _ rfl _ _ 22 rfl w12.heap.size 55 jS (.agg #[.int .i64 0, .int .i64 0]) 2 16 Try.underlying22 hj hj0 hj1 hj2 rfl (by decide) (.slice pA r cA) r (icells (l.take r)) rfl HOB.out (.slice pt (m - (r + 1)) (c4 - (r + 1))) (m - (r + 1)) (icells (l.drop (r + 1))) rfl (HDRR.out.g hB) (icells_one _) (by unfold maxLen; omega) (by omega) hB.size ?_
              intro pB cB wC hownC hgrowC hatC
              have hC : G w12 wC := hB.grown hgrowC (fun k h => (HOB.out.lt k h).1)
              obtain ⟨m1, hm1⟩ : ∃ m1, m1 = r + (m - (r + 1)) := ⟨_, rfl⟩
              rw [← hm1] at hownC ⊢
              obtain ⟨l', hl'⟩ : ∃ l', l' = l.take r ++ l.drop (r + 1) := ⟨_, rfl⟩
              have hl'n : l'.length = m1 := by rw [hl', List.length_append, List.length_take, List.length_drop, ← HM.out]; omega
              have HLS : Hid (RdrS wC (.slice pB m1 cB) l' ∧ (∀ g, (Value.slice pB m1 cB).ownBlock = some g → w12.heap.size ≤ g) ∧ l'.length = m1 ∧ l' = l.take r ++ l.drop (r + 1) ∧ m1 ≤ 120) := Lib.hid ⟨by
                unfold RdrS
                rw [hl'n, hl', icells_app]
                exact rdr_of_owns hownC, fun g hg => (hownC.lt g hg).1, hl'n, hl', by omega⟩
              have hgw13 : G w wC := hgw12.trans hC
              have hg913 : G w9 wC := hg912.trans hC
              clear hownC hgrowC hatC HOB hB hs0 hl' hl'n hm1
              show _ ∧ _
              refine ⟨(by first | exact hC | exact fun _ => hC), ?_⟩
              refine hl_take_np 10 (by kernel_rfl) (by kernel_rfl) rfl (by kernel_rfl) hC (v := ?_) ?_ ?_
              rotate_left
              · (rintro x hx; clear hx; go_simp; try rfl)
              simp only [Act.put, List.setIfInBounds_toArray, List.set_cons_zero, List.set_cons_succ]
              refine hl_done (by kernel_rfl) ?_ _
              refine NoPanic.normal ?_
              have s0' : wC.cell? ⟨bs, os + r * 2, none⟩ = some (.int .i64 q) := hC.cell s0
              have hz13 := hC.size
              have HX13 : Hid (EvR wC w5.heap.size (.slice q1 n1 d1) n1 X1 ∧ BufNow S3 P3 B3 s wC ∧ n1 = X1.length ∧ X1.map outV = E1 ∧ n1 ≤ 420) := Lib.hid ⟨HX9.out.1.g hg913, HX9.out.2.g hg913, HX1.out.2.1, HX1.out.2.2.1, HX1.out.2.2.2.1⟩
              have hn1b := HX1.out.2.2.2.1
              clear s0 s1 hC HX9 hg912 hg913 hgw12 hgw9
              go_wp2_with fail
              go_loopw [22, 23] (fun ov iv wr => ∃ i k : Nat, iv = .int .i64 i ∧ i ≤ n1 ∧ k ≤ i ∧ Hid (k = ((X1.take i).filter (fun x => keepV q (outV x))).length) ∧ wr.ownsRow wC.heap.size 53 8 ov k (vcs ((X1.take i).filter (fun x => keepV q (outV x)))) ∧ Hid (G wC wr)) (fun _ iv _ => n1 - (intOf iv).toNat)
              case atStart => exact ⟨0, 0, rfl, by omega, by omega, Lib.hid rfl, World.ownsRow_nil _ _ _ _, Lib.hid (G.refl _)⟩
              case round =>
                obtain ⟨i, k, rfl, hi', hki, HKL, hown, HG⟩ := hrel
                obtain ⟨op, oc, rfl⟩ := ownsRow_shape hown
                have HOW := Lib.hid hown
                clear hown
                by_cases hlt : i < n1
                · have hiI : (i : Int) < (n1 : Int) := by omega
                  have hi0' : (0 : Int) ≤ (i : Int) := by omega
                  obtain ⟨x, hx⟩ : ∃ x, X1[i]? = some x := ⟨X1[i]'(by have := HX13.out.2.2.1; omega), List.getElem?_eq_getElem _⟩
                  have hrx : Rdr wr 8 (.slice q1 n1 d1) n1 (vcs X1) := rdr_of_owns (HG.out.ownsRow HX13.out.1.row)
                  obtain ⟨bx, ox, rfl, c0, c1, c2, c3, c4', c5, c6, c7⟩ := cellsAt8 hrx HX13.out.2.2.1 hx
                  have c4 := c4'
                  have s0w : wr.cell? ⟨bs, os + r * 2, none⟩ = some (.int .i64 q) := HG.out.cell s0'
                  have HX := Lib.hid hx
                  clear hx hrx c4'
                  obtain ⟨xc, ⟨⟨xf, xt, xl, xm, xv, xps⟩, pv, nv, cv, hv⟩, xq, xa⟩ := x
                  simp only at hv
                  subst hv
                  simp only at c0 c1 c2 c3 c4 c5 c6 c7
                  cases xc
                  · go_upto_region 20 with fail
                    refine region_hl (fun w' => G wr w') 99 19 (by kernel_rfl) rfl ?_
                    simp only [List.replicate_succ, List.replicate_zero]
                    have hs0 : (fun w' : World => G wr w') wr.drew := (G.refl wr).drew
                    refine hl_take_np 0 (by kernel_rfl) (by kernel_rfl) rfl (by kernel_rfl) hs0 (v := ?_) ?_ ?_
                    rotate_left
                    · (rintro x hx; have y0 := hx.cell c0; have y1 := hx.cell c1; have y2 := hx.cell c2; have y3 := hx.cell c3; have y4 := hx.cell c4; have y5 := hx.cell c5; have y6 := hx.cell c6; have y7 := hx.cell c7; have ys := hx.cell s0w; clear hx; go_simp; try rfl)
                    simp only [Act.put, List.setIfInBounds_toArray, List.set_cons_zero, List.set_cons_succ]
                    refine hl_take_np 1 (by kernel_rfl) (by kernel_rfl) rfl (by kernel_rfl) hs0 (v := ?_) ?_ ?_
                    rotate_left
                    · (rintro x hx; have y0 := hx.cell c0; have y1 := hx.cell c1; have y2 := hx.cell c2; have y3 := hx.cell c3; have y4 := hx.cell c4; have y5 := hx.cell c5; have y6 := hx.cell c6; have y7 := hx.cell c7; have ys := hx.cell s0w; clear hx; go_simp; try rfl)
                    simp only [Act.put, List.setIfInBounds_toArray, List.set_cons_zero, List.set_cons_succ]
                    refine hl_take_np 2 (by kernel_rfl) (by kernel_rfl) rfl (by kernel_rfl) hs0 (v := ?_) ?_ ?_
                    rotate_left
                    · (rintro x hx; have y0 := hx.cell c0; have y1 := hx.cell c1; have y2 := hx.cell c2; have y3 := hx.cell c3; have y4 := hx.cell c4; have y5 := hx.cell c5; have y6 := hx.cell c6; have y7 := hx.cell c7; have ys := hx.cell s0w; clear hx; go_simp; try rfl)
                    simp only [Act.put, List.setIfInBounds_toArray, List.set_cons_zero, List.set_cons_succ]
                    refine hl_take_np 3 (by kernel_rfl) (by kernel_rfl) rfl (by kernel_rfl) hs0 (v := ?_) ?_ ?_
                    rotate_left
                    · (rintro x hx; have y0 := hx.cell c0; have y1 := hx.cell c1; have y2 := hx.cell c2; have y3 := hx.cell c3; have y4 := hx.cell c4; have y5 := hx.cell c5; have y6 := hx.cell c6; have y7 := hx.cell c7; have ys := hx.cell s0w; clear hx; go_simp; try rfl)
                    simp only [Act.put, List.setIfInBounds_toArray, List.set_cons_zero, List.set_cons_succ]
                    refine hl_take_np 4 (by kernel_rfl) (by kernel_rfl) rfl (by kernel_rfl) hs0 (v := ?_) ?_ ?_
                    rotate_left
                    · (rintro x hx; have y0 := hx.cell c0; have y1 := hx.cell c1; have y2 := hx.cell c2; have y3 := hx.cell c3; have y4 := hx.cell c4; have y5 := hx.cell c5; have y6 := hx.cell c6; have y7 := hx.cell c7; have ys := hx.cell s0w; clear hx; go_simp; try rfl)
                    simp only [Act.put, List.setIfInBounds_toArray, List.set_cons_zero, List.set_cons_succ]
                    refine hl_take_np 5 (by kernel_rfl) (by kernel_rfl) rfl (by kernel_rfl) hs0 (v := ?_) ?_ ?_
                    rotate_left
                    · (rintro x hx; have y0 := hx.cell c0; have y1 := hx.cell c1; have y2 := hx.cell c2; have y3 := hx.cell c3; have y4 := hx.cell c4; have y5 := hx.cell c5; have y6 := hx.cell c6; have y7 := hx.cell c7; have ys := hx.cell s0w; clear hx; go_simp; try rfl)
                    simp only [Act.put, List.setIfInBounds_toArray, List.set_cons_zero, List.set_cons_succ]
                    refine hl_take_np 6 (by kernel_rfl) (by kernel_rfl) rfl (by kernel_rfl) hs0 (v := ?_) ?_ ?_
                    rotate_left
                    · (rintro x hx; have y0 := hx.cell c0; have y1 := hx.cell c1; have y2 := hx.cell c2; have y3 := hx.cell c3; have y4 := hx.cell c4; have y5 := hx.cell c5; have y6 := hx.cell c6; have y7 := hx.cell c7; have ys := hx.cell s0w; clear hx; go_simp; try rfl)
                    simp only [Act.put, List.setIfInBounds_toArray, List.set_cons_zero, List.set_cons_succ]
                    refine hl_skip_np 7 (by kernel_rfl) (by kernel_rfl) rfl (by kernel_rfl) hs0 ?_
                    simp only [Act.put, List.setIfInBounds_toArray, List.set_cons_zero, List.set_cons_succ]
                    refine hl_skip_np 8 (by kernel_rfl) (by kernel_rfl) rfl (by kernel_rfl) hs0 ?_
                    simp only [Act.put, List.setIfInBounds_toArray, List.set_cons_zero, List.set_cons_succ]
                    refine hl_skip_np 9 (by kernel_rfl) (by kernel_rfl) rfl (by kernel_rfl) hs0 ?_
                    simp only [Act.put, List.setIfInBounds_toArray, List.set_cons_zero, List.set_cons_succ]
                    refine hl_skip_np 10 (by kernel_rfl) (by kernel_rfl) rfl (by kernel_rfl) hs0 ?_
                    simp only [Act.put, List.setIfInBounds_toArray, List.set_cons_zero, List.set_cons_succ]
                    refine hl_skip_np 11 (by kernel_rfl) (by kernel_rfl) rfl (by kernel_rfl) hs0 ?_
                    simp only [Act.put, List.setIfInBounds_toArray, List.set_cons_zero, List.set_cons_succ]
                    refine hl_skip_np 12 (by kernel_rfl) (by kernel_rfl) rfl (by kernel_rfl) hs0 ?_
                    simp only [Act.put, List.setIfInBounds_toArray, List.set_cons_zero, List.set_cons_succ]
                    refine hl_skip_np 13 (by kernel_rfl) (by kernel_rfl) rfl (by kernel_rfl) hs0 ?_
                    simp only [Act.put, List.setIfInBounds_toArray, List.set_cons_zero, List.set_cons_succ]
                    refine hl_skip_np 14 (by kernel_rfl) (by kernel_rfl) rfl (by kernel_rfl) hs0 ?_
                    simp only [Act.put, List.setIfInBounds_toArray, List.set_cons_zero, List.set_cons_succ]
                    refine hl_skip_np 15 (by kernel_rfl) (by kernel_rfl) rfl (by kernel_rfl) hs0 ?_
                    simp only [Act.put, List.setIfInBounds_toArray, List.set_cons_zero, List.set_cons_succ]
                    refine hl_skip_np 16 (by kernel_rfl) (by kernel_rfl) rfl (by kernel_rfl) hs0 ?_
                    simp only [Act.put, List.setIfInBounds_toArray, List.set_cons_zero, List.set_cons_succ]
                    refine hl_skip_np 17 (by kernel_rfl) (by kernel_rfl) rfl (by kernel_rfl) hs0 ?_
                    simp only [Act.put, List.setIfInBounds_toArray, List.set_cons_zero, List.set_cons_succ]
                    refine hl_take_np 18 (by kernel_rfl) (by kernel_rfl) rfl (by kernel_rfl) hs0 (v := ?_) ?_ ?_
                    rotate_left
                    · (rintro x hx; have y0 := hx.cell c0; have y1 := hx.cell c1; have y2 := hx.cell c2; have y3 := hx.cell c3; have y4 := hx.cell c4; have y5 := hx.cell c5; have y6 := hx.cell c6; have y7 := hx.cell c7; have ys := hx.cell s0w; clear hx; go_simp; try rfl)
                    simp only [Act.put, List.setIfInBounds_toArray, List.set_cons_zero, List.set_cons_succ]
                    refine hl_done (by kernel_rfl) ?_ _
                    refine NoPanic.normal ?_
                    replace c0 := hs0.cell c0
                    replace c1 := hs0.cell c1
                    replace c2 := hs0.cell c2
                    replace c3 := hs0.cell c3
                    replace c4 := hs0.cell c4
                    replace c5 := hs0.cell c5
                    replace c6 := hs0.cell c6
                    replace c7 := hs0.cell c7
                    have HGZ := Lib.hid (HG.out.trans hs0)
                    have HOZ := Lib.hid (hs0.ownsRow HOW.out)
                    generalize wr.drew = wz at c0 c1 c2 c3 c4 c5 c6 c7 HGZ HOZ ⊢
                    clear hs0 s0w
                    have HTX : Hid ((X1.take (i + 1)).filter (fun x => keepV q (outV x)) = (X1.take i).filter (fun x => keepV q (outV x)) ++ [⟨false, ⟨⟨xf, xt, xl, xm, .slice pv nv cv, xps⟩, pv, nv, cv, rfl⟩, xq, xa⟩]) := Lib.hid (by
                      rw [List.take_add_one, HX.out, List.filter_append]
                      congr 1)
                    have hzs := HGZ.out.size
                    go_wp2_with (at_builtin; refine wpList_append2 _ rfl _ _ 44 rfl wC.heap.size 53 iV (.agg #[.bool false, .string ⟨#[]⟩, .string ⟨#[]⟩, .string ⟨#[]⟩, .int .i64 0, .slice none 0 0, .int .i64 0, .int .i64 0]) 8 104 Try.underlying44 hi hi0 hi1 hi2 rfl (by decide) (.slice op k oc) k (vcs ((X1.take i).filter (fun x => keepV q (outV x)))) rfl ((G.alloc (G.refl wz) _).ownsRow HOZ.out) ⟨wz.heap.size, 0, none⟩ 1 1 [.bool false, .string xf, .string xt, .string xl, .int .i64 xm, .slice pv nv cv, .int .i64 xq, .int .i64 xa] rfl rfl (World.news_of_block (cs := #[.bool false, .string xf, .string xt, .string xl, .int .i64 xm, .slice pv nv cv, .int .i64 xq, .int .i64 xa]) (t := 53) (fr := (0, 0)) (alloc_new wz _)) (by simp [Value.oneCell']) (by unfold maxLen; omega) (by omega) (by simp; omega) ?_; intro v' w1' hown hgrow hnil hat; obtain ⟨op', oc', rfl⟩ := ownsRow_shape hown; have HG1 := Lib.hid ((HGZ.out.alloc _).grown hgrow (fun g hg => (HOZ.out.lt g hg).1)); have HO1 : Hid (w1'.ownsRow wC.heap.size 53 8 (.slice op' (k + 1) oc') (k + 1) (vcs ((X1.take (i + 1)).filter (fun x => keepV q (outV x))))) := Lib.hid (by rw [HTX.out, vcs_app]; exact hown); clear hown hgrow hnil hat c0 c1 c2 c3 c4 c5 c6 c7)
                    have HKL1 : Hid (k + 1 = ((X1.take (i + 1)).filter (fun x => keepV q (outV x))).length) := Lib.hid (by rw [HTX.out, List.length_append, ← HKL.out]; rfl)
                    go_roundw
                    case rel => exact ⟨i + 1, k + 1, by go_num, by omega, by omega, HKL1, HO1.out, HG1⟩
                    case measure => simp [intOf]; omega
                  · by_cases hqq : xq = q
                    · have hqb : (xq == q) = true := by simpa using hqq
                      have hqn : (xq != q) = false := by simp [hqq]
                      go_upto_region 20 with fail
                      refine region_hl (fun w' => G wr w') 99 19 (by kernel_rfl) rfl ?_
                      simp only [List.replicate_succ, List.replicate_zero]
                      have hs0 : (fun w' : World => G wr w') wr.drew := (G.refl wr).drew
                      refine hl_take_np 0 (by kernel_rfl) (by kernel_rfl) rfl (by kernel_rfl) hs0 (v := ?_) ?_ ?_
                      rotate_left
                      · (rintro x hx; have y0 := hx.cell c0; have y1 := hx.cell c1; have y2 := hx.cell c2; have y3 := hx.cell c3; have y4 := hx.cell c4; have y5 := hx.cell c5; have y6 := hx.cell c6; have y7 := hx.cell c7; have ys := hx.cell s0w; clear hx; go_simp; try rfl)
                      simp only [Act.put, List.setIfInBounds_toArray, List.set_cons_zero, List.set_cons_succ]
                      refine hl_take_np 1 (by kernel_rfl) (by kernel_rfl) rfl (by kernel_rfl) hs0 (v := ?_) ?_ ?_
                      rotate_left
                      · (rintro x hx; have y0 := hx.cell c0; have y1 := hx.cell c1; have y2 := hx.cell c2; have y3 := hx.cell c3; have y4 := hx.cell c4; have y5 := hx.cell c5; have y6 := hx.cell c6; have y7 := hx.cell c7; have ys := hx.cell s0w; clear hx; go_simp; try rfl)
                      simp only [Act.put, List.setIfInBounds_toArray, List.set_cons_zero, List.set_cons_succ]
                      refine hl_take_np 2 (by kernel_rfl) (by kernel_rfl) rfl (by kernel_rfl) hs0 (v := ?_) ?_ ?_
                      rotate_left
                      · (rintro x hx; have y0 := hx.cell c0; have y1 := hx.cell c1; have y2 := hx.cell c2; have y3 := hx.cell c3; have y4 := hx.cell c4; have y5 := hx.cell c5; have y6 := hx.cell c6; have y7 := hx.cell c7; have ys := hx.cell s0w; clear hx; go_simp; try rfl)
                      simp only [Act.put, List.setIfInBounds_toArray, List.set_cons_zero, List.set_cons_succ]
                      refine hl_take_np 3 (by kernel_rfl) (by kernel_rfl) rfl (by kernel_rfl) hs0 (v := ?_) ?_ ?_
                      rotate_left
                      · (rintro x hx; have y0 := hx.cell c0; have y1 := hx.cell c1; have y2 := hx.cell c2; have y3 := hx.cell c3; have y4 := hx.cell c4; have y5 := hx.cell c5; have y6 := hx.cell c6; have y7 := hx.cell c7; have ys := hx.cell s0w; clear hx; go_simp; try rfl)
                      simp only [Act.put, List.setIfInBounds_toArray, List.set_cons_zero, List.set_cons_succ]
                      refine hl_take_np 4 (by kernel_rfl) (by kernel_rfl) rfl (by kernel_rfl) hs0 (v := ?_) ?_ ?_
                      rotate_left
                      · (rintro x hx; have y0 := hx.cell c0; have y1 := hx.cell c1; have y2 := hx.cell c2; have y3 := hx.cell c3; have y4 := hx.cell c4; have y5 := hx.cell c5; have y6 := hx.cell c6; have y7 := hx.cell c7; have ys := hx.cell s0w; clear hx; go_simp; try rfl)
                      simp only [Act.put, List.setIfInBounds_toArray, List.set_cons_zero, List.set_cons_succ]
                      refine hl_take_np 5 (by kernel_rfl) (by kernel_rfl) rfl (by kernel_rfl) hs0 (v := ?_) ?_ ?_
                      rotate_left
                      · (rintro x hx; have y0 := hx.cell c0; have y1 := hx.cell c1; have y2 := hx.cell c2; have y3 := hx.cell c3; have y4 := hx.cell c4; have y5 := hx.cell c5; have y6 := hx.cell c6; have y7 := hx.cell c7; have ys := hx.cell s0w; clear hx; go_simp; try rfl)
                      simp only [Act.put, List.setIfInBounds_toArray, List.set_cons_zero, List.set_cons_succ]
                      refine hl_take_np 6 (by kernel_rfl) (by kernel_rfl) rfl (by kernel_rfl) hs0 (v := ?_) ?_ ?_
                      rotate_left
                      · (rintro x hx; have y0 := hx.cell c0; have y1 := hx.cell c1; have y2 := hx.cell c2; have y3 := hx.cell c3; have y4 := hx.cell c4; have y5 := hx.cell c5; have y6 := hx.cell c6; have y7 := hx.cell c7; have ys := hx.cell s0w; clear hx; go_simp; try rfl)
                      simp only [Act.put, List.setIfInBounds_toArray, List.set_cons_zero, List.set_cons_succ]
                      refine hl_take_np 7 (by kernel_rfl) (by kernel_rfl) rfl (by kernel_rfl) hs0 (v := ?_) ?_ ?_
                      rotate_left
                      · (rintro x hx; have y0 := hx.cell c0; have y1 := hx.cell c1; have y2 := hx.cell c2; have y3 := hx.cell c3; have y4 := hx.cell c4; have y5 := hx.cell c5; have y6 := hx.cell c6; have y7 := hx.cell c7; have ys := hx.cell s0w; clear hx; go_simp; try rfl)
                      simp only [Act.put, List.setIfInBounds_toArray, List.set_cons_zero, List.set_cons_succ]
                      refine hl_take_np 8 (by kernel_rfl) (by kernel_rfl) rfl (by kernel_rfl) hs0 (v := ?_) ?_ ?_
                      rotate_left
                      · (rintro x hx; have y0 := hx.cell c0; have y1 := hx.cell c1; have y2 := hx.cell c2; have y3 := hx.cell c3; have y4 := hx.cell c4; have y5 := hx.cell c5; have y6 := hx.cell c6; have y7 := hx.cell c7; have ys := hx.cell s0w; clear hx; go_simp; try rfl)
                      simp only [Act.put, List.setIfInBounds_toArray, List.set_cons_zero, List.set_cons_succ]
                      refine hl_take_np 9 (by kernel_rfl) (by kernel_rfl) rfl (by kernel_rfl) hs0 (v := ?_) ?_ ?_
                      rotate_left
                      · (rintro x hx; have y0 := hx.cell c0; have y1 := hx.cell c1; have y2 := hx.cell c2; have y3 := hx.cell c3; have y4 := hx.cell c4; have y5 := hx.cell c5; have y6 := hx.cell c6; have y7 := hx.cell c7; have ys := hx.cell s0w; clear hx; go_simp; try rfl)
                      simp only [Act.put, List.setIfInBounds_toArray, List.set_cons_zero, List.set_cons_succ]
                      refine hl_take_np 10 (by kernel_rfl) (by kernel_rfl) rfl (by kernel_rfl) hs0 (v := ?_) ?_ ?_
                      rotate_left
                      · (rintro x hx; have y0 := hx.cell c0; have y1 := hx.cell c1; have y2 := hx.cell c2; have y3 := hx.cell c3; have y4 := hx.cell c4; have y5 := hx.cell c5; have y6 := hx.cell c6; have y7 := hx.cell c7; have ys := hx.cell s0w; clear hx; go_simp; try rfl)
                      simp only [Act.put, List.setIfInBounds_toArray, List.set_cons_zero, List.set_cons_succ]
                      refine hl_take_np 11 (by kernel_rfl) (by kernel_rfl) rfl (by kernel_rfl) hs0 (v := ?_) ?_ ?_
                      rotate_left
                      · (rintro x hx; have y0 := hx.cell c0; have y1 := hx.cell c1; have y2 := hx.cell c2; have y3 := hx.cell c3; have y4 := hx.cell c4; have y5 := hx.cell c5; have y6 := hx.cell c6; have y7 := hx.cell c7; have ys := hx.cell s0w; clear hx; go_simp; try rfl)
                      simp only [Act.put, List.setIfInBounds_toArray, List.set_cons_zero, List.set_cons_succ]
                      refine hl_take_np 12 (by kernel_rfl) (by kernel_rfl) rfl (by kernel_rfl) hs0 (v := ?_) ?_ ?_
                      rotate_left
                      · (rintro x hx; have y0 := hx.cell c0; have y1 := hx.cell c1; have y2 := hx.cell c2; have y3 := hx.cell c3; have y4 := hx.cell c4; have y5 := hx.cell c5; have y6 := hx.cell c6; have y7 := hx.cell c7; have ys := hx.cell s0w; clear hx; go_simp; try rfl)
                      simp only [Act.put, List.setIfInBounds_toArray, List.set_cons_zero, List.set_cons_succ]
                      refine hl_take_np 13 (by kernel_rfl) (by kernel_rfl) rfl (by kernel_rfl) hs0 (v := ?_) ?_ ?_
                      rotate_left
                      · (rintro x hx; have y0 := hx.cell c0; have y1 := hx.cell c1; have y2 := hx.cell c2; have y3 := hx.cell c3; have y4 := hx.cell c4; have y5 := hx.cell c5; have y6 := hx.cell c6; have y7 := hx.cell c7; have ys := hx.cell s0w; clear hx; go_simp; try rfl)
                      simp only [Act.put, List.setIfInBounds_toArray, List.set_cons_zero, List.set_cons_succ]
                      refine hl_take_np 14 (by kernel_rfl) (by kernel_rfl) rfl (by kernel_rfl) hs0 (v := ?_) ?_ ?_
                      rotate_left
                      · (rintro x hx; have y0 := hx.cell c0; have y1 := hx.cell c1; have y2 := hx.cell c2; have y3 := hx.cell c3; have y4 := hx.cell c4; have y5 := hx.cell c5; have y6 := hx.cell c6; have y7 := hx.cell c7; have ys := hx.cell s0w; clear hx; go_simp; try rfl)
                      simp only [Act.put, List.setIfInBounds_toArray, List.set_cons_zero, List.set_cons_succ]
                      refine hl_take_np 15 (by kernel_rfl) (by kernel_rfl) rfl (by kernel_rfl) hs0 (v := ?_) ?_ ?_
                      rotate_left
                      · (rintro x hx; have y0 := hx.cell c0; have y1 := hx.cell c1; have y2 := hx.cell c2; have y3 := hx.cell c3; have y4 := hx.cell c4; have y5 := hx.cell c5; have y6 := hx.cell c6; have y7 := hx.cell c7; have ys := hx.cell s0w; clear hx; go_simp; try rfl)
                      simp only [Act.put, List.setIfInBounds_toArray, List.set_cons_zero, List.set_cons_succ]
                      refine hl_take_np 16 (by kernel_rfl) (by kernel_rfl) rfl (by kernel_rfl) hs0 (v := ?_) ?_ ?_
                      rotate_left
                      · (rintro x hx; have y0 := hx.cell c0; have y1 := hx.cell c1; have y2 := hx.cell c2; have y3 := hx.cell c3; have y4 := hx.cell c4; have y5 := hx.cell c5; have y6 := hx.cell c6; have y7 := hx.cell c7; have ys := hx.cell s0w; clear hx; go_simp; try rfl)
                      simp only [Act.put, List.setIfInBounds_toArray, List.set_cons_zero, List.set_cons_succ]
                      refine hl_take_np 17 (by kernel_rfl) (by kernel_rfl) rfl (by kernel_rfl) hs0 (v := ?_) ?_ ?_
                      rotate_left
                      · (rintro x hx; have y0 := hx.cell c0; have y1 := hx.cell c1; have y2 := hx.cell c2; have y3 := hx.cell c3; have y4 := hx.cell c4; have y5 := hx.cell c5; have y6 := hx.cell c6; have y7 := hx.cell c7; have ys := hx.cell s0w; clear hx; go_simp; try rfl)
                      simp only [Act.put, List.setIfInBounds_toArray, List.set_cons_zero, List.set_cons_succ]
                      refine hl_take_np 18 (by kernel_rfl) (by kernel_rfl) rfl (by kernel_rfl) hs0 (v := ?_) ?_ ?_
                      rotate_left
                      · (rintro x hx; have y0 := hx.cell c0; have y1 := hx.cell c1; have y2 := hx.cell c2; have y3 := hx.cell c3; have y4 := hx.cell c4; have y5 := hx.cell c5; have y6 := hx.cell c6; have y7 := hx.cell c7; have ys := hx.cell s0w; clear hx; go_simp; try rfl)
                      simp only [Act.put, List.setIfInBounds_toArray, List.set_cons_zero, List.set_cons_succ]
                      refine hl_done (by kernel_rfl) ?_ _
                      refine NoPanic.normal ?_
                      replace c0 := hs0.cell c0
                      replace c1 := hs0.cell c1
                      replace c2 := hs0.cell c2
                      replace c3 := hs0.cell c3
                      replace c4 := hs0.cell c4
                      replace c5 := hs0.cell c5
                      replace c6 := hs0.cell c6
                      replace c7 := hs0.cell c7
                      have HGZ := Lib.hid (HG.out.trans hs0)
                      have HOZ := Lib.hid (hs0.ownsRow HOW.out)
                      generalize wr.drew = wz at c0 c1 c2 c3 c4 c5 c6 c7 HGZ HOZ ⊢
                      clear hs0 s0w
                      have HTX : Hid ((X1.take (i + 1)).filter (fun x => keepV q (outV x)) = (X1.take i).filter (fun x => keepV q (outV x))) := Lib.hid (by
                        rw [List.take_add_one, HX.out, List.filter_append]
                        have h9 : (List.filter (fun x => keepV q (outV x)) (some (⟨true, ⟨⟨xf, xt, xl, xm, .slice pv nv cv, xps⟩, pv, nv, cv, rfl⟩, xq, xa⟩ : EV)).toList) = [] := List.filter_eq_nil_iff.2 (fun z hz => by
                          rw [List.mem_singleton.1 hz]
                          simp [keepV, outV, hqq])
                        rw [h9, List.append_nil])
                      clear c0 c1 c2 c3 c4 c5 c6 c7
                      go_wp2_with fail
                      go_roundw
                      case rel => exact ⟨i + 1, k, by go_num, by omega, by omega, Lib.hid (by rw [HTX.out]; exact HKL.out), by rw [HTX.out]; exact HOZ.out, HGZ⟩
                      case measure => simp [intOf]; omega
                    · have hqb : (xq == q) = false := by simpa using hqq
                      have hqn : (xq != q) = true := by simpa using hqq
                      go_upto_region 20 with fail
                      refine region_hl (fun w' => G wr w') 99 19 (by kernel_rfl) rfl ?_
                      simp only [List.replicate_succ, List.replicate_zero]
                      have hs0 : (fun w' : World => G wr w') wr.drew := (G.refl wr).drew
                      refine hl_take_np 0 (by kernel_rfl) (by kernel_rfl) rfl (by kernel_rfl) hs0 (v := ?_) ?_ ?_
                      rotate_left
                      · (rintro x hx; have y0 := hx.cell c0; have y1 := hx.cell c1; have y2 := hx.cell c2; have y3 := hx.cell c3; have y4 := hx.cell c4; have y5 := hx.cell c5; have y6 := hx.cell c6; have y7 := hx.cell c7; have ys := hx.cell s0w; clear hx; go_simp; try rfl)
                      simp only [Act.put, List.setIfInBounds_toArray, List.set_cons_zero, List.set_cons_succ]
                      refine hl_take_np 1 (by kernel_rfl) (by kernel_rfl) rfl (by kernel_rfl) hs0 (v := ?_) ?_ ?_
                      rotate_left
                      · (rintro x hx; have y0 := hx.cell c0; have y1 := hx.cell c1; have y2 := hx.cell c2; have y3 := hx.cell c3; have y4 := hx.cell c4; have y5 := hx.cell c5; have y6 := hx.cell c6; have y7 := hx.cell c7; have ys := hx.cell s0w; clear hx; go_simp; try rfl)
                      simp only [Act.put, List.setIfInBounds_toArray, List.set_cons_zero, List.set_cons_succ]
                      refine hl_take_np 2 (by kernel_rfl) (by kernel_rfl) rfl (by kernel_rfl) hs0 (v := ?_) ?_ ?_
                      rotate_left
                      · (rintro x hx; have y0 := hx.cell c0; have y1 := hx.cell c1; have y2 := hx.cell c2; have y3 := hx.cell c3; have y4 := hx.cell c4; have y5 := hx.cell c5; have y6 := hx.cell c6; have y7 := hx.cell c7; have ys := hx.cell s0w; clear hx; go_simp; try rfl)
                      simp only [Act.put, List.setIfInBounds_toArray, List.set_cons_zero, List.set_cons_succ]
                      refine hl_take_np 3 (by kernel_rfl) (by kernel_rfl) rfl (by kernel_rfl) hs0 (v := ?_) ?_ ?_
                      rotate_left
                      · (rintro x hx; have y0 := hx.cell c0; have y1 := hx.cell c1; have y2 := hx.cell c2; have y3 := hx.cell c3; have y4 := hx.cell c4; have y5 := hx.cell c5; have y6 := hx.cell c6; have y7 := hx.cell c7; have ys := hx.cell s0w; clear hx; go_simp; try rfl)
                      simp only [Act.put, List.setIfInBounds_toArray, List.set_cons_zero, List.set_cons_succ]
                      refine hl_take_np 4 (by kernel_rfl) (by kernel_rfl) rfl (by kernel_rfl) hs0 (v := ?_) ?_ ?_
                      rotate_left
                      · (rintro x hx; have y0 := hx.cell c0; have y1 := hx.cell c1; have y2 := hx.cell c2; have y3 := hx.cell c3; have y4 := hx.cell c4; have y5 := hx.cell c5; have y6 := hx.cell c6; have y7 := hx.cell c7; have ys := hx.cell s0w; clear hx; go_simp; try rfl)
                      simp only [Act.put, List.setIfInBounds_toArray, List.set_cons_zero, List.set_cons_succ]
                      refine hl_take_np 5 (by kernel_rfl) (by kernel_rfl) rfl (by kernel_rfl) hs0 (v := ?_) ?_ ?_
                      rotate_left
                      · (rintro x hx; have y0 := hx.cell c0; have y1 := hx.cell c1; have y2 := hx.cell c2; have y3 := hx.cell c3; have y4 := hx.cell c4; have y5 := hx.cell c5; have y6 := hx.cell c6; have y7 := hx.cell c7; have ys := hx.cell s0w; clear hx; go_simp; try rfl)
                      simp only [Act.put, List.setIfInBounds_toArray, List.set_cons_zero, List.set_cons_succ]
                      refine hl_take_np 6 (by kernel_rfl) (by kernel_rfl) rfl (by kernel_rfl) hs0 (v := ?_) ?_ ?_
                      rotate_left
                      · (rintro x hx; have y0 := hx.cell c0; have y1 := hx.cell c1; have y2 := hx.cell c2; have y3 := hx.cell c3; have y4 := hx.cell c4; have y5 := hx.cell c5; have y6 := hx.cell c6; have y7 := hx.cell c7; have ys := hx.cell s0w; clear hx; go_simp; try rfl)
                      simp only [Act.put, List.setIfInBounds_toArray, List.set_cons_zero, List.set_cons_succ]
                      refine hl_take_np 7 (by kernel_rfl) (by kernel_rfl) rfl (by kernel_rfl) hs0 (v := ?_) ?_ ?_
                      rotate_left
                      · (rintro x hx; have y0 := hx.cell c0; have y1 := hx.cell c1; have y2 := hx.cell c2; have y3 := hx.cell c3; have y4 := hx.cell c4; have y5 := hx.cell c5; have y6 := hx.cell c6; have y7 := hx.cell c7; have ys := hx.cell s0w; clear hx; go_simp; try rfl)
                      simp only [Act.put, List.setIfInBounds_toArray, List.set_cons_zero, List.set_cons_succ]
                      refine hl_take_np 8 (by kernel_rfl) (by kernel_rfl) rfl (by kernel_rfl) hs0 (v := ?_) ?_ ?_
                      rotate_left
                      · (rintro x hx; have y0 := hx.cell c0; have y1 := hx.cell c1; have y2 := hx.cell c2; have y3 := hx.cell c3; have y4 := hx.cell c4; have y5 := hx.cell c5; have y6 := hx.cell c6; have y7 := hx.cell c7; have ys := hx.cell s0w; clear hx; go_simp; try rfl)
                      simp only [Act.put, List.setIfInBounds_toArray, List.set_cons_zero, List.set_cons_succ]
                      refine hl_take_np 9 (by kernel_rfl) (by kernel_rfl) rfl (by kernel_rfl) hs0 (v := ?_) ?_ ?_
                      rotate_left
                      · (rintro x hx; have y0 := hx.cell c0; have y1 := hx.cell c1; have y2 := hx.cell c2; have y3 := hx.cell c3; have y4 := hx.cell c4; have y5 := hx.cell c5; have y6 := hx.cell c6; have y7 := hx.cell c7; have ys := hx.cell s0w; clear hx; go_simp; try rfl)
                      simp only [Act.put, List.setIfInBounds_toArray, List.set_cons_zero, List.set_cons_succ]
                      refine hl_take_np 10 (by kernel_rfl) (by kernel_rfl) rfl (by kernel_rfl) hs0 (v := ?_) ?_ ?_
                      rotate_left
                      · (rintro x hx; have y0 := hx.cell c0; have y1 := hx.cell c1; have y2 := hx.cell c2; have y3 := hx.cell c3; have y4 := hx.cell c4; have y5 := hx.cell c5; have y6 := hx.cell c6; have y7 := hx.cell c7; have ys := hx.cell s0w; clear hx; go_simp; try rfl)
                      simp only [Act.put, List.setIfInBounds_toArray, List.set_cons_zero, List.set_cons_succ]
                      refine hl_take_np 11 (by kernel_rfl) (by kernel_rfl) rfl (by kernel_rfl) hs0 (v := ?_) ?_ ?_
                      rotate_left
                      · (rintro x hx; have y0 := hx.cell c0; have y1 := hx.cell c1; have y2 := hx.cell c2; have y3 := hx.cell c3; have y4 := hx.cell c4; have y5 := hx.cell c5; have y6 := hx.cell c6; have y7 := hx.cell c7; have ys := hx.cell s0w; clear hx; go_simp; try rfl)
                      simp only [Act.put, List.setIfInBounds_toArray, List.set_cons_zero, List.set_cons_succ]
                      refine hl_take_np 12 (by kernel_rfl) (by kernel_rfl) rfl (by kernel_rfl) hs0 (v := ?_) ?_ ?_
                      rotate_left
                      · (rintro x hx; have y0 := hx.cell c0; have y1 := hx.cell c1; have y2 := hx.cell c2; have y3 := hx.cell c3; have y4 := hx.cell c4; have y5 := hx.cell c5; have y6 := hx.cell c6; have y7 := hx.cell c7; have ys := hx.cell s0w; clear hx; go_simp; try rfl)
                      simp only [Act.put, List.setIfInBounds_toArray, List.set_cons_zero, List.set_cons_succ]
                      refine hl_take_np 13 (by kernel_rfl) (by kernel_rfl) rfl (by kernel_rfl) hs0 (v := ?_) ?_ ?_
                      rotate_left
                      · (rintro x hx; have y0 := hx.cell c0; have y1 := hx.cell c1; have y2 := hx.cell c2; have y3 := hx.cell c3; have y4 := hx.cell c4; have y5 := hx.cell c5; have y6 := hx.cell c6; have y7 := hx.cell c7; have ys := hx.cell s0w; clear hx; go_simp; try rfl)
                      simp only [Act.put, List.setIfInBounds_toArray, List.set_cons_zero, List.set_cons_succ]
                      refine hl_take_np 14 (by kernel_rfl) (by kernel_rfl) rfl (by kernel_rfl) hs0 (v := ?_) ?_ ?_
                      rotate_left
                      · (rintro x hx; have y0 := hx.cell c0; have y1 := hx.cell c1; have y2 := hx.cell c2; have y3 := hx.cell c3; have y4 := hx.cell c4; have y5 := hx.cell c5; have y6 := hx.cell c6; have y7 := hx.cell c7; have ys := hx.cell s0w; clear hx; go_simp; try rfl)
                      simp only [Act.put, List.setIfInBounds_toArray, List.set_cons_zero, List.set_cons_succ]
                      refine hl_take_np 15 (by kernel_rfl) (by kernel_rfl) rfl (by kernel_rfl) hs0 (v := ?_) ?_ ?_
                      rotate_left
                      · (rintro x hx; have y0 := hx.cell c0; have y1 := hx.cell c1; have y2 := hx.cell c2; have y3 := hx.cell c3; have y4 := hx.cell c4; have y5 := hx.cell c5; have y6 := hx.cell c6; have y7 := hx.cell c7; have ys := hx.cell s0w; clear hx; go_simp; try rfl)
                      simp only [Act.put, List.setIfInBounds_toArray, List.set_cons_zero, List.set_cons_succ]
                      refine hl_take_np 16 (by kernel_rfl) (by kernel_rfl) rfl (by kernel_rfl) hs0 (v := ?_) ?_ ?_
                      rotate_left
                      · (rintro x hx; have y0 := hx.cell c0; have y1 := hx.cell c1; have y2 := hx.cell c2; have y3 := hx.cell c3; have y4 := hx.cell c4; have y5 := hx.cell c5; have y6 := hx.cell c6; have y7 := hx.cell c7; have ys := hx.cell s0w; clear hx; go_simp; try rfl)
                      simp only [Act.put, List.setIfInBounds_toArray, List.set_cons_zero, List.set_cons_succ]
                      refine hl_take_np 17 (by kernel_rfl) (by kernel_rfl) rfl (by kernel_rfl) hs0 (v := ?_) ?_ ?_
                      rotate_left
                      · (rintro x hx; have y0 := hx.cell c0; have y1 := hx.cell c1; have y2 := hx.cell c2; have y3 := hx.cell c3; have y4 := hx.cell c4; have y5 := hx.cell c5; have y6 := hx.cell c6; have y7 := hx.cell c7; have ys := hx.cell s0w; clear hx; go_simp; try rfl)
                      simp only [Act.put, List.setIfInBounds_toArray, List.set_cons_zero, List.set_cons_succ]
                      refine hl_take_np 18 (by kernel_rfl) (by kernel_rfl) rfl (by kernel_rfl) hs0 (v := ?_) ?_ ?_
                      rotate_left
                      · (rintro x hx; have y0 := hx.cell c0; have y1 := hx.cell c1; have y2 := hx.cell c2; have y3 := hx.cell c3; have y4 := hx.cell c4; have y5 := hx.cell c5; have y6 := hx.cell c6; have y7 := hx.cell c7; have ys := hx.cell s0w; clear hx; go_simp; try rfl)
                      simp only [Act.put, List.setIfInBounds_toArray, List.set_cons_zero, List.set_cons_succ]
                      refine hl_done (by kernel_rfl) ?_ _
                      refine NoPanic.normal ?_
                      replace c0 := hs0.cell c0
                      replace c1 := hs0.cell c1
                      replace c2 := hs0.cell c2
                      replace c3 := hs0.cell c3
                      replace c4 := hs0.cell c4
                      replace c5 := hs0.cell c5
                      replace c6 := hs0.cell c6
                      replace c7 := hs0.cell c7
                      have HGZ := Lib.hid (HG.out.trans hs0)
                      have HOZ := Lib.hid (hs0.ownsRow HOW.out)
                      generalize wr.drew = wz at c0 c1 c2 c3 c4 c5 c6 c7 HGZ HOZ ⊢
                      clear hs0 s0w
                      have HTX : Hid ((X1.take (i + 1)).filter (fun x => keepV q (outV x)) = (X1.take i).filter (fun x => keepV q (outV x)) ++ [⟨true, ⟨⟨xf, xt, xl, xm, .slice pv nv cv, xps⟩, pv, nv, cv, rfl⟩, xq, xa⟩]) := Lib.hid (by
                        rw [List.take_add_one, HX.out, List.filter_append]
                        congr 1
                        refine List.filter_eq_self.2 (fun z hz => ?_)
                        rw [List.mem_singleton.1 hz]
                        simp [keepV, outV, hqq])
                      have hzs := HGZ.out.size
                      go_wp2_with (at_builtin; refine wpList_append2 _ rfl _ _ 44 rfl wC.heap.size 53 iV (.agg #[.bool false, .string ⟨#[]⟩, .string ⟨#[]⟩, .string ⟨#[]⟩, .int .i64 0, .slice none 0 0, .int .i64 0, .int .i64 0]) 8 104 Try.underlying44 hi hi0 hi1 hi2 rfl (by decide) (.slice op k oc) k (vcs ((X1.take i).filter (fun x => keepV q (outV x)))) rfl ((G.alloc (G.refl wz) _).ownsRow HOZ.out) ⟨wz.heap.size, 0, none⟩ 1 1 [.bool true, .string xf, .string xt, .string xl, .int .i64 xm, .slice pv nv cv, .int .i64 xq, .int .i64 xa] rfl rfl (World.news_of_block (cs := #[.bool true, .string xf, .string xt, .string xl, .int .i64 xm, .slice pv nv cv, .int .i64 xq, .int .i64 xa]) (t := 53) (fr := (0, 0)) (alloc_new wz _)) (by simp [Value.oneCell']) (by unfold maxLen; omega) (by omega) (by simp; omega) ?_; intro v' w1' hown hgrow hnil hat; obtain ⟨op', oc', rfl⟩ := ownsRow_shape hown; have HG1 := Lib.hid ((HGZ.out.alloc _).grown hgrow (fun g hg => (HOZ.out.lt g hg).1)); have HO1 : Hid (w1'.ownsRow wC.heap.size 53 8 (.slice op' (k + 1) oc') (k + 1) (vcs ((X1.take (i + 1)).filter (fun x => keepV q (outV x))))) := Lib.hid (by rw [HTX.out, vcs_app]; exact hown); clear hown hgrow hnil hat c0 c1 c2 c3 c4 c5 c6 c7)
                      have HKL1 : Hid (k + 1 = ((X1.take (i + 1)).filter (fun x => keepV q (outV x))).length) := Lib.hid (by rw [HTX.out, List.length_append, ← HKL.out]; rfl)
                      go_roundw
                      case rel => exact ⟨i + 1, k + 1, by go_num, by omega, by omega, HKL1, HO1.out, HG1⟩
                      case measure => simp [intOf]; omega
                · obtain rfl : i = n1 := by omega
                  have htk : X1.take i = X1 := List.take_of_length_le (by have := HX13.out.2.2.1; omega)
                  have hlaw := less_law (s := s) HOK.out HXS.out
                  rw [← HLS.out.2.2.2.1, ← HE.out.1] at hlaw
                  have HLW := Lib.hid hlaw
                  have hii : ¬ (i : Int) < (i : Int) := by omega
                  have HOW2 : Hid (k = (X1.filter (fun x => keepV q (outV x))).length ∧ wr.ownsRow wC.heap.size 53 8 (.slice op k oc) k (vcs (X1.filter (fun x => keepV q (outV x))))) := Lib.hid (by
                    have h1 := HKL.out
                    have h2 := HOW.out
                    rw [htk] at h1 h2
                    exact ⟨h1, h2⟩)
                  have HTD3 := Lib.hid (told_any S3 P3 B3 s a b l' _ 1000 wr (HX13.out.2.1.g HG.out) (RdrS.g HLS.out.1 HG.out) (by have := HLS.out.2.2.1; have := HLS.out.2.2.2.2; omega) (by have := HSO.out.2.1; omega) HSO.out.2.2 (fun h0 g hg hs => by
                    have h1 := HLS.out.2.1 g hg
                    have h2 := (HBS.out.2.2.2 g (.inl hs)).2
                    omega) (by omega))
                  have hzr := HG.out.size
                  clear htk hlaw HOW HKL HTD
                  go_wp2_with fail
                  refine HTD3.out.mono ?_
                  rintro e0 w15 ⟨u6, X6, rfl, hown6, hX6, hE6, -, -, hf15⟩
                  have hlf : ((E1.filter (keepV q))).length ≤ 420 := Nat.le_trans (List.length_filter_le _ _) HE.out.2.2.2.2
                  rw [HLW.out.2, List.take_of_length_le (by omega)] at hX6
                  obtain ⟨n6, hn6⟩ : ∃ n6, n6 = X6.length := ⟨_, rfl⟩
                  rw [← hn6] at hown6
                  obtain ⟨q6, d6, rfl⟩ := ownsRow_shape hown6
                  have hgw15 : G w w15 := g_of_fr (hgw13.trans HG.out) hf15 (fun k hk => by have := (HBS.out.2.2.2 k (.inl hk)).1; omega)
                  have HAL2 : Hid (Calls Try.prog 17 #[.slice q6 n6 d6, .slice op k oc] w15 fun e' w' => e' = .returned (.bool true) ∧ G w15 w') := Lib.hid (by
                    refine alike_any X6 (X1.filter (fun x => keepV q (outV x))) _ _ w15 ?_ ?_ (fun x hx => (hE6 x hx).at) (fun x hx => ?_) ?_ ?_
                    · rw [← hn6]; exact rdr_of_owns hown6
                    · rw [← HOW2.out.1]; exact rdr_of_owns (hf15.ownsRow HOW2.out.2 (fun g hg hs => by
                        have h1 := (HOW2.out.2.lt g hg).1
                        have h2 := (HBS.out.2.2.2 g (.inl hs)).2
                        omega))
                    · exact (((HX13.out.1.g HG.out).fr hf15 (fun k h1 h2 hs => by have := (HBS.out.2.2.2 k (.inl hs)).2; omega)).own x (List.mem_filter.1 hx).1).at
                    · rw [hX6, ← HX13.out.2.2.2.1, List.filter_map]; rfl
                    · have h1 := congrArg List.length hX6
                      rw [List.length_map] at h1
                      omega)
                  clear hown6 hX6 hE6 hf15 hn6 HTD3 hlf
                  go_wp2_with fail
                  refine HAL2.out.mono ?_
                  rintro e0 w16 ⟨rfl, hg16⟩
                  have hgE := hgw15.trans hg16
                  clear hgw15 hg16 HAL2
                  go_wp2_with fail
                  go_ret
                  exact ⟨rfl, hgE⟩
          · have hbb' : b < mb := by omega
            go_wp2_with fail
            go_ret
            exact ⟨rfl, hgw2⟩
        · have hab' : mb < a := by omega
          go_wp2_with fail
          go_ret
          exact ⟨rfl, hgw2⟩
      · have hn3' : (300 : Int) < nn := by omega
        go_wp2_with fail
        go_ret
        exact ⟨rfl, hgw2⟩
    · have hed : decide (e = 0) = false := by simpa using he
      go_wp2_with fail
      go_ret
      exact ⟨rfl, hgw2⟩
  · have hsmI : (120 : Int) < (sz : Int) + (m : Int) := by omega
    go_wp2_with fail
    go_ret
    exact ⟨rfl, hgw2⟩
end Go.Proofs.Ythhmmjpgefinmaa
