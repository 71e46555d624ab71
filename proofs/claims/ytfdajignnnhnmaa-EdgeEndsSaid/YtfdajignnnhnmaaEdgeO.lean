/- edges: the chapter's example; EdgeParses: the walk -/
import Derived.Test.YtfdajignnnhnmaaEdgeM
namespace Go.Proofs.Ytfdajignnnhnmaa
set_option linter.unusedVariables false
set_option linter.unusedSimpArgs false
open Go.RowKit Go.Shelf
attribute [local go_sem] Oper.semAt_some

def exP : List Prp := [(⟨#[107]⟩, 1, 7, ⟨#[]⟩)]
def exB : List UInt8 := [1, 97, 1, 98, 1, 120, 0, 0, 0, 0, 0, 5, 1, 1, 107, 1, 1, 0, 0, 0, 0, 7]
theorem ex_put : putP ⟨#[97]⟩ ⟨#[98]⟩ ⟨#[120]⟩ 5 exP = exB := by decide +kernel
theorem ex_check : checkP ⟨#[97]⟩ ⟨#[98]⟩ ⟨#[120]⟩ 5 exP = 0 := by decide +kernel
theorem ex_out : outP exB = (⟨#[97]⟩, ⟨#[98]⟩, ⟨#[120]⟩, 5, exP) := by kernel_rfl
theorem ex_err : errP exB = 0 := by decide +kernel
theorem own_slice {w : World} {base : Nat} {e : TypeId} {size n : Nat} {v : Value} {xs : List Value} (h : w.ownsRow base e size v n xs) : ∃ p c, v = .slice p n c ∧ n ≤ c ∧ c ≤ maxLen := by
  rcases h.2 with ⟨rfl, rfl⟩ | ⟨g, cap, cur, rfl, -, -, h1, h2, -⟩
  · exact ⟨_, _, rfl, Nat.le_refl _, Nat.zero_le _⟩
  · exact ⟨_, _, rfl, h1, h2⟩
theorem same_of_out {A B : Edg} (h : outE A = outE B) : sameE A B = true := by
  simp only [outE, Prod.mk.injEq] at h
  obtain ⟨h1, h2, h3, h4, h5⟩ := h
  simp [sameE, h1, h2, h3, h4, h5]
set_option maxHeartbeats 1000000 in
theorem awake_any (w : World) : Calls Try.prog 9 #[] w fun e w' => e = .returned (.bool true) ∧ G w w' := by
  obtain ⟨W1, hW1⟩ : ∃ X : World, X = w.alloc (.cells #[.string ⟨#[107]⟩, .int .i64 1, .int .i64 7, .string ⟨#[]⟩] 56) := ⟨_, rfl⟩
  have hat1 : EdgAt W1 ⟨⟨#[97]⟩, ⟨#[98]⟩, ⟨#[120]⟩, 5, .slice (some ⟨w.heap.size, 0, none⟩) 1 1, exP⟩ := by
    refine ⟨?_, by show (1 : Nat) ≤ _; omega, fun p hp => ?_, by show (1 : Nat) ≤ _; unfold maxLen; omega, by show (1 : Nat) ≤ _; unfold maxLen; omega, by show (1 : Nat) ≤ _; unfold maxLen; omega⟩
    · rw [hW1]; exact rdr_alloc w [.string ⟨#[107]⟩, .int .i64 1, .int .i64 7, .string ⟨#[]⟩] 56 (0, 0) 4 1 1 rfl
    · obtain rfl := List.mem_singleton.1 hp
      exact ⟨by show (1 : Nat) ≤ _; unfold maxLen; omega, Nat.zero_le _⟩
  have hg1 : G w W1 := by rw [hW1]; exact (G.refl w).alloc _
  have hz1 : w.heap.size + 1 = W1.heap.size := by rw [hW1]; simp
  have HAT := Lib.hid hat1
  have HW1 := Lib.hid hW1
  have HZ1 := Lib.hid hz1
  clear hat1 hW1 hz1
  go_enter Try.func9, Try.ntmps9
  go_upto_region 2 with fail
  rw [← HW1.out]
  obtain ⟨W2, hW2⟩ : ∃ X : World, X = W1.alloc (.cells #[.string ⟨#[97]⟩, .string ⟨#[98]⟩, .string ⟨#[120]⟩, .int .i64 5, .slice (some ⟨w.heap.size, 0, none⟩) 1 1] 27) := ⟨_, rfl⟩
  have hg2 : G W1 W2 := by rw [hW2]; exact (G.refl W1).alloc _
  rw [← hW2]
  have hb := alloc_new W1 (.cells #[.string ⟨#[97]⟩, .string ⟨#[98]⟩, .string ⟨#[120]⟩, .int .i64 5, .slice (some ⟨w.heap.size, 0, none⟩) 1 1] 27)
  rw [← hW2] at hb
  rw [← HZ1.out] at hb
  obtain ⟨c0, c1, c2, c3, c4⟩ := cells5 hb
  have HP := Lib.hid (put_any _ W2 (HAT.out.g hg2))
  rw [show checkE ⟨⟨#[97]⟩, ⟨#[98]⟩, ⟨#[120]⟩, 5, .slice (some ⟨w.heap.size, 0, none⟩) 1 1, exP⟩ = 0 from ex_check, show putE ⟨⟨#[97]⟩, ⟨#[98]⟩, ⟨#[120]⟩, 5, .slice (some ⟨w.heap.size, 0, none⟩) 1 1, exP⟩ = exB from ex_put] at HP
  unfold ev at HP
  simp only at HP
  have HG2 := Lib.hid (hg1.trans hg2)
  have HAT2 := Lib.hid (HAT.out.g hg2)
  clear hW2 hb hg1 hg2
  go_wp2_with fail
  refine HP.out.mono ?_
  rintro e W3 ⟨v, rfl, hown, hg3⟩
  obtain ⟨p, c, rfl, hc1, hc2⟩ := own_slice hown
  have hrd := rdr_of_owns hown
  have HQ := Lib.hid (parse_any p c exB W3 hrd hc1 hc2)
  rw [ex_err] at HQ
  rw [show exB.length = 22 from rfl] at HQ hrd ⊢
  have HRD := Lib.hid hrd
  have c0 := hg3.cell c0
  have c1 := hg3.cell c1
  have c2 := hg3.cell c2
  have c3 := hg3.cell c3
  have c4 := hg3.cell c4
  have HG3 := Lib.hid (HG2.out.trans hg3)
  have HAT3 := Lib.hid (HAT2.out.g hg3)
  clear hown hrd hg3 HP
  go_wp2_with fail
  refine HQ.out.mono ?_
  rintro e W4 ⟨E, rfl, hout, hatE, hg4⟩
  rw [ex_out] at hout
  have c0 := hg4.cell c0
  have c1 := hg4.cell c1
  have c2 := hg4.cell c2
  have c3 := hg4.cell c3
  have c4 := hg4.cell c4
  have hrd4 := HRD.out.g hg4
  have HG4 := Lib.hid (HG3.out.trans hg4)
  have HAT4 := Lib.hid (HAT3.out.g hg4)
  obtain ⟨f, t, l, tm, v, ps⟩ := E
  obtain ⟨-, vp, vc, hvv, -⟩ := id hatE.rdr
  simp only at hvv
  obtain ⟨k4, hk4⟩ : ∃ k, k = ps.length := ⟨_, rfl⟩
  rw [← hk4] at hvv
  subst hvv
  clear hk4
  unfold ev
  simp only
  have hs : sameE ⟨⟨#[97]⟩, ⟨#[98]⟩, ⟨#[120]⟩, 5, .slice (some ⟨w.heap.size, 0, none⟩) 1 1, exP⟩ ⟨f, t, l, tm, .slice vp k4 vc, ps⟩ = true := same_of_out hout.symm
  have HS := Lib.hid hs
  have HATE := Lib.hid hatE
  have HRD4 := Lib.hid hrd4
  clear hs hatE hrd4 hout hg4 HQ
  obtain ⟨W5, hW5⟩ : ∃ X : World, X = W4.alloc (.cells #[.string f, .string t, .string l, .int .i64 tm, .slice vp k4 vc] 27) := ⟨_, rfl⟩
  have hg5 : G W4 W5 := by rw [hW5]; exact (G.refl W4).alloc _
  have hb5 := alloc_new W4 (.cells #[.string f, .string t, .string l, .int .i64 tm, .slice vp k4 vc] 27)
  rw [← hW5] at hb5
  obtain ⟨d0, d1, d2, d3, d4⟩ := cells5 hb5
  have HW5 := Lib.hid hW5
  go_upto_region 4 with fail
  rw [← HW5.out]
  have c0 := hg5.cell c0
  have c1 := hg5.cell c1
  have c2 := hg5.cell c2
  have c3 := hg5.cell c3
  have c4 := hg5.cell c4
  have HRD5 := Lib.hid (HRD4.out.g hg5)
  have HAT5 := Lib.hid (HAT4.out.g hg5)
  have HATE5 := Lib.hid (HATE.out.g hg5)
  have HG5 := Lib.hid (HG4.out.trans hg5)
  clear hW5 hb5 hg5 HW5
  go_wp2_with fail
  have hgL : G W5 (W5.alloc (.cells (bys exB).toArray 5)) := (G.refl W5).alloc _
  have hrL : Rdr (W5.alloc (.cells (bys exB).toArray 5)) 1 (.slice (some ⟨W5.heap.size, 0, none⟩) 22 22) 22 (bys exB) := rdr_alloc W5 (bys exB) 5 (0, 0) 1 22 22 rfl
  refine (sameB_any exB exB _ _ (W5.alloc (.cells (bys exB).toArray 5)) (HRD5.out.g hgL) hrL (by decide) (by decide)).mono ?_
  rintro e W6 ⟨rfl, hg6⟩
  have hg56 := hgL.trans hg6
  have c0 := hg56.cell c0
  have c1 := hg56.cell c1
  have c2 := hg56.cell c2
  have c3 := hg56.cell c3
  have c4 := hg56.cell c4
  have d0 := hg56.cell d0
  have d1 := hg56.cell d1
  have d2 := hg56.cell d2
  have d3 := hg56.cell d3
  have d4 := hg56.cell d4
  have HE := Lib.hid (sameE_any _ _ W6 (HAT5.out.g hg56) (HATE5.out.g hg56))
  rw [HS.out] at HE
  unfold ev at HE
  simp only at HE
  have HG6 := Lib.hid (HG5.out.trans hg56)
  have hdec : decide (exB = exB) = true := by simp
  rw [hdec]
  clear hgL hrL hg6 hg56 hdec
  go_wp2_with fail
  refine HE.out.mono ?_
  rintro e W7 ⟨rfl, hg7⟩
  go_wp2_with fail
  go_ret
  exact ⟨rfl, HG6.out.trans hg7⟩
theorem Lent.g {W W' : World} {base : Nat} {e : TypeId} {size n : Nat} {v : Value} {xs : List Value} (h : Lent W base e size v n xs) (hg : G W W') : Lent W' base e size v n xs := h.fr (hg.fr (fun _ => False)) (fun _ _ h => h)
set_option maxHeartbeats 1000000 in
theorem parses_any (l : List UInt8) (p : Option Addr) (c : Nat) (w : World) (h : Rdr w 1 (.slice p l.length c) l.length (bys l)) (hc : l.length ≤ c) (hc2 : c ≤ 9223372036854775807) :
    Calls Try.prog 3 #[.slice p l.length c] w fun e w' => e = .returned (.bool true) ∧ G w w' := by
  obtain ⟨n, hn⟩ : ∃ n, n = l.length := ⟨_, rfl⟩
  have HN := Lib.hid hn
  have H := Lib.hid h
  rw [← hn] at hc ⊢
  clear h hn
  by_cases hbig : 2000 < n
  · have hb : ((2000 : Int) < (n : Int)) := by omega
    go_enter Try.func3, Try.ntmps3
    go_wp2_with fail
    refine (awake_any w).mono ?_
    rintro e w1 ⟨rfl, hg⟩
    go_wp2_with fail
    go_ret
    exact ⟨rfl, hg⟩
  · have hb : ¬ ((2000 : Int) < (n : Int)) := by omega
    have HL := Lib.hid (lentB_any l _ w H.out (by have := HN.out; omega))
    rw [← HN.out] at HL
    go_enter Try.func3, Try.ntmps3
    go_wp2_with fail
    refine HL.out.mono ?_
    rintro e w1 ⟨u, rfl, hlent, hg1⟩
    have hrd1 := hlent.rdr (by rw [bys_len, HN.out, Nat.mul_one])
    obtain ⟨g, cap, rfl, hown⟩ := id hlent
    have hcap : n + 12 ≤ cap ∧ cap ≤ maxLen := by
      obtain ⟨p', c', he, h1, h2⟩ := own_slice hown
      cases he; exact ⟨h1, h2⟩
    have HC := Lib.hid hcap
    have HLT := Lib.hid hlent
    have HR1 := Lib.hid hrd1
    have HP := Lib.hid (parse_any (some ⟨g, 0, none⟩) cap l w1 (by rw [← HN.out]; exact hrd1) (by rw [← HN.out]; omega) (by have := hcap.2; unfold maxLen at this; exact this))
    rw [← HN.out] at HP
    have HG1 := Lib.hid hg1
    clear hlent hrd1 hown hcap hg1 HL
    go_wp2_with fail
    refine HP.out.mono ?_
    rintro e w2 ⟨E, rfl, hout, hatE, hg2⟩
    obtain ⟨f, t, lb, tm, v, ps⟩ := E
    obtain ⟨-, vp, vc, hvv, -⟩ := id hatE.rdr
    simp only at hvv
    obtain ⟨k4, hk4⟩ : ∃ k, k = ps.length := ⟨_, rfl⟩
    rw [← hk4] at hvv
    subst hvv
    clear hk4
    unfold ev
    simp only
    obtain ⟨W3, hW3⟩ : ∃ X : World, X = w2.alloc (.cells #[.string f, .string t, .string lb, .int .i64 tm, .slice vp k4 vc] 27) := ⟨_, rfl⟩
    have hg3 : G w2 W3 := by rw [hW3]; exact (G.refl w2).alloc _
    have hb3 := alloc_new w2 (.cells #[.string f, .string t, .string lb, .int .i64 tm, .slice vp k4 vc] 27)
    rw [← hW3] at hb3
    obtain ⟨c0, c1, c2, c3, c4⟩ := cells5 hb3
    have HW3 := Lib.hid hW3
    have HG3 := Lib.hid ((HG1.out.trans hg2).trans hg3)
    have HATE := Lib.hid (hatE.g hg3)
    have HLT3 := Lib.hid ((HLT.out.g hg2).g hg3)
    have HOUT := Lib.hid hout
    have HQ := Lib.hid (rparse_any p c l W3 (by have := H.out.g HG3.out; exact this) (by rw [← HN.out]; exact hc) hc2)
    rw [← HN.out] at HQ
    clear hW3 hg3 hb3 hout hatE hg2 HP HLT HR1
    go_upto_region 5 with fail
    rw [← HW3.out]
    go_wp2_with fail
    refine HQ.out.mono ?_
    rintro e w4 ⟨E2, rfl, hout2, hatE2, hg4⟩
    obtain ⟨f2, t2, l2, tm2, v2, ps2⟩ := E2
    obtain ⟨-, vp2, vc2, hvv, -⟩ := id hatE2.rdr
    simp only at hvv
    obtain ⟨k5, hk5⟩ : ∃ k, k = ps2.length := ⟨_, rfl⟩
    rw [← hk5] at hvv
    subst hvv
    clear hk5
    unfold ev
    simp only
    obtain ⟨W5, hW5⟩ : ∃ X : World, X = w4.alloc (.cells #[.string f2, .string t2, .string l2, .int .i64 tm2, .slice vp2 k5 vc2] 27) := ⟨_, rfl⟩
    have hg5 : G w4 W5 := by rw [hW5]; exact (G.refl w4).alloc _
    have hb5 := alloc_new w4 (.cells #[.string f2, .string t2, .string l2, .int .i64 tm2, .slice vp2 k5 vc2] 27)
    rw [← hW5] at hb5
    obtain ⟨d0, d1, d2, d3, d4⟩ := cells5 hb5
    have hg45 := hg4.trans hg5
    have c0 := hg45.cell c0
    have c1 := hg45.cell c1
    have c2 := hg45.cell c2
    have c3 := hg45.cell c3
    have c4 := hg45.cell c4
    have HW5 := Lib.hid hW5
    have HG5 := Lib.hid (HG3.out.trans hg45)
    have HS := Lib.hid (show sameE ⟨f, t, lb, tm, .slice vp k4 vc, ps⟩ ⟨f2, t2, l2, tm2, .slice vp2 k5 vc2, ps2⟩ = true from same_of_out (HOUT.out.trans hout2.symm))
    have HE := Lib.hid (sameE_any _ _ W5 (HATE.out.g hg45) (hatE2.g hg5))
    rw [HS.out] at HE
    unfold ev at HE
    simp only at HE
    have HLT5 := Lib.hid (HLT3.out.g hg45)
    clear hW5 hg5 hb5 hout2 hatE2 hg4 hg45 HQ HATE HOUT HLT3
    go_upto_region 6 with fail
    rw [← HW5.out]
    go_wp2_with fail
    refine HE.out.mono ?_
    rintro e w6 ⟨rfl, hg6⟩
    have HK := Lib.hid (keptB_yes l _ (.slice p n c) _ w6 (by rw [← HN.out]; exact HLT5.out.g hg6) (by have := H.out.g (HG5.out.trans hg6); rw [HN.out]; exact this) (by have := HN.out; omega))
    have HG6 := Lib.hid (HG5.out.trans hg6)
    clear hg6 HE c0 c1 c2 c3 c4 d0 d1 d2 d3 d4
    go_wp2_with fail
    refine HK.out.mono ?_
    rintro e w7 ⟨rfl, hg7⟩
    have HG7 := Lib.hid (HG6.out.trans hg7)
    clear hg7
    go_wp2_with fail
    refine (awake_any w7).mono ?_
    rintro e w8 ⟨rfl, hg8⟩
    go_wp2_with fail
    go_ret
    exact ⟨rfl, HG7.out.trans hg8⟩
end Go.Proofs.Ytfdajignnnhnmaa
