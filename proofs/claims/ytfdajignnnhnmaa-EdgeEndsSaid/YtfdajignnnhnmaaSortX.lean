/- rows of edges: the stable sort -/
import Derived.Test.YtfdajignnnhnmaaSortW
namespace Go.Proofs.Ytfdajignnnhnmaa
set_option linter.unusedVariables false
set_option linter.unusedSimpArgs false
open Go.RowKit Go.Shelf
attribute [local go_sem] Oper.semAt_some

/-- each block of s is in order, between lo and hi -/
def Blk (s lo hi : Nat) (M : List Edg) : Prop := ∀ u i j, s * u ≤ i → i < j → j < s * u + s → lo ≤ i → j < hi → eLe (eat M i) (eat M j)
theorem ge_blk {s u q j : Nat} (h1 : s * q ≤ j) (h2 : j < s * u + s) : s * q ≤ s * u := by
  have h3 : s * q < s * (u + 1) := by rw [Nat.mul_succ]; omega
  have : q < u + 1 := Nat.lt_of_mul_lt_mul_left h3
  exact Nat.mul_le_mul_left _ (by omega)
/-- one block more is in order -/
theorem Blk.step {s q a b : Nat} {M N : List Edg} (h : Blk s 0 a M) (ha : a = s * q) (hb : b ≤ a + s) (hst : Stab a b M N) (hs : Srt a b N) : Blk s 0 b N := by
  intro u i j h1 h2 h3 h4 h5
  by_cases c : j < a
  · rw [hst.at (.inl (by omega)), hst.at (.inl c)]
    exact h u i j h1 h2 h3 h4 c
  · have := ge_blk (s := s) (u := u) (q := q) (j := j) (by omega) h3
    exact hs i j (by omega) h2 h5
theorem Blk.rest {s a b n : Nat} {M N : List Edg} (h : Blk s a n M) (hab : a ≤ b) (hst : Stab a b M N) : Blk s b n N := by
  intro u i j h1 h2 h3 h4 h5
  rw [hst.at (.inr h4), hst.at (.inr (by omega))]
  exact h u i j h1 h2 h3 (by omega) h5
theorem Blk.one {s a n q : Nat} {M : List Edg} (h : Blk s a n M) (ha : a = s * q) {e : Nat} (he : e ≤ a + s) (hn : e ≤ n) : Srt a e M := fun i j h1 h2 h3 => h q i j (by omega) h2 (by omega) h1 (by omega)
theorem Blk.two {s a n q : Nat} {M : List Edg} (h : Blk s a n M) (ha : a = s * q) {e : Nat} (he : e ≤ a + s + s) (hn : e ≤ n) : Srt (a + s) e M := fun i j h1 h2 h3 =>
  h (q + 1) i j (by rw [Nat.mul_succ]; omega) h2 (by rw [Nat.mul_succ]; omega) (by omega) (by omega)
theorem Blk.all {s n : Nat} {M : List Edg} (h : Blk s 0 n M) (hs : n ≤ s) : Srt 0 n M := fun i j h1 h2 h3 => h 0 i j (by omega) h2 (by omega) h1 h3
set_option maxRecDepth 10000 in
set_option maxHeartbeats 8000000 in
theorem stable_any (L : List Edg) (g n c : Nat) (w : World) (h : In w g n c L) (hn : n ≤ 1000000) :
    Calls Try.prog 83 #[.slice (some ⟨g, 0, none⟩) n c, .int .i64 n, CMPF] w (Merged w g n c 0 n L) := by
  have HI0 := Lib.hid h
  clear h
  go_enter Try.func83, Try.ntmps83
  go_wp2_with fail
  go_loopw [7, 8] (fun av bv wr => ∃ (a b q : Nat) (M : List Edg), av = .int .i64 a ∧ bv = .int .i64 b ∧ a ≤ n ∧ a + 20 ≤ b ∧ b ≤ a + 20 ∧ Hid (a = 20 * q ∧ In wr g n c M ∧ Stab 0 n L M ∧ Blk 20 0 a M) ∧ Fr (fun k => k = g) w wr) (fun av _ _ => n - (intOf av).toNat)
  case atStart => exact ⟨0, 20, 0, L, rfl, rfl, by omega, by omega, by omega, Lib.hid ⟨by omega, HI0.out, Stab.refl _ _ _, fun u i j h1 h2 h3 h4 h5 => by omega⟩, Fr.refl _ _⟩
  case round =>
    obtain ⟨a, b, q, M, rfl, rfl, han, hb1, hb2, HM, hf⟩ := hrel
    by_cases hbn : b ≤ n
    · have hbI : (b : Int) ≤ (n : Int) := by omega
      have HC := Lib.hid (insertion_any M g n c a b wr HM.out.2.1 (by omega) hbn hn)
      go_wp2_with fail
      refine HC.out.mono ?_
      rintro e w1 ⟨⟨u, rfl⟩, N, hin, hst, hsr, hf1⟩
      have HN := Lib.hid (show b = 20 * (q + 1) ∧ In w1 g n c N ∧ Stab 0 n L N ∧ Blk 20 0 b N from ⟨by have := HM.out.1; omega, hin, HM.out.2.2.1.trans (hst.mono (by omega) hbn), HM.out.2.2.2.step HM.out.1 (by omega) hst hsr⟩)
      have hf2 := hf.trans hf1 (fun _ _ h => h)
      clear hin hst hsr hf1 hf HC
      go_wp2_with fail
      go_roundw
      case rel => exact ⟨b, b + 20, q + 1, N, rfl, by go_num, hbn, by omega, by omega, HN, hf2⟩
      case measure => simp [intOf]; omega
    · have hbI : ¬ (b : Int) ≤ (n : Int) := by omega
      have HC := Lib.hid (insertion_any M g n c a n wr HM.out.2.1 han (Nat.le_refl _) hn)
      obtain ⟨WA, rfl⟩ : ∃ WA : World, WA = wr := ⟨_, rfl⟩
      go_wp2_with fail
      refine HC.out.mono ?_
      rintro e w1 ⟨⟨u, rfl⟩, N, hin, hst, hsr, hf1⟩
      have HN := Lib.hid (show In w1 g n c N ∧ Stab 0 n L N ∧ Blk 20 0 n N from ⟨hin, HM.out.2.2.1.trans (hst.mono (by omega) (Nat.le_refl _)), HM.out.2.2.2.step HM.out.1 (by omega) hst hsr⟩)
      have hf2 := hf.trans hf1 (fun _ _ h => h)
      clear hin hst hsr hf1 hf HC
      go_wp2_with fail
      go_loopw [6] (fun sv wr => ∃ (s : Nat) (M : List Edg), sv = .int .i64 s ∧ 20 ≤ s ∧ s ≤ 4000000 ∧ Hid (In wr g n c M ∧ Stab 0 n L M ∧ Blk s 0 n M) ∧ Fr (fun k => k = g) w wr) (fun sv _ => n - (intOf sv).toNat)
      case atStart => exact ⟨20, N, rfl, by omega, by omega, HN, hf2⟩
      case round =>
        clear hf2 HN
        obtain ⟨s, K, rfl, hs1, hs2, HK, hfk⟩ := hrel
        by_cases hsn : s < n
        · have hsI : (s : Int) < (n : Int) := by omega
          obtain ⟨s2, hs2d⟩ : ∃ x, x = 2 * s := ⟨_, rfl⟩
          have hs2I : 2 * (s : Int) = (s2 : Int) := by omega
          have hs2J : (s : Int) * 2 = (s2 : Int) := by omega
          have HS2 := Lib.hid hs2d
          have hs2a : s + s ≤ s2 := by omega
          have hs2b : s2 ≤ s + s := by omega
          obtain ⟨WB, rfl⟩ : ∃ WB : World, WB = wr := ⟨_, rfl⟩
          clear hs2d
          go_wp2_with fail
          go_loopw [7, 8] (fun av bv wr => ∃ (a b q : Nat) (M : List Edg), av = .int .i64 a ∧ bv = .int .i64 b ∧ a ≤ n ∧ a + s2 ≤ b ∧ b ≤ a + s2 ∧ Hid (a = s2 * q ∧ In wr g n c M ∧ Stab 0 n L M ∧ Blk s2 0 a M ∧ Blk s a n M) ∧ Fr (fun k => k = g) w wr) (fun av _ _ => n - (intOf av).toNat)
          case atStart => exact ⟨0, s2, 0, K, rfl, rfl, by omega, by omega, by omega, Lib.hid ⟨by omega, HK.out.1, HK.out.2.1, fun u i j h1 h2 h3 h4 h5 => by omega, HK.out.2.2⟩, hfk⟩
          case round =>
            clear hfk HK
            obtain ⟨a, b, q, M, rfl, rfl, han, hb1, hb2, HM, hf⟩ := hrel
            have HQ := Lib.hid (show a = s * (2 * q) by rw [HM.out.1, HS2.out, Nat.mul_comm 2 s, Nat.mul_assoc])
            obtain ⟨m, hm⟩ : ∃ m, m = a + s := ⟨_, rfl⟩
            have hmI : (a : Int) + (s : Int) = (m : Int) := by omega
            have hm1 : a + s ≤ m := by omega
            have hm2 : m ≤ a + s := by omega
            have HMM := Lib.hid hm
            clear hm
            by_cases hbn : b ≤ n
            · have hbI : (b : Int) ≤ (n : Int) := by omega
              have HC := Lib.hid (sym_any g n c hn (b - a) a m b M wr (Nat.le_refl _) (by omega) (by omega) hbn HM.out.2.1 (HM.out.2.2.2.2.one HQ.out (by omega) (by omega)) (by have := HM.out.2.2.2.2.two HQ.out (e := b) (by omega) (by omega); rwa [← HMM.out] at this))
              obtain ⟨b3, hb3d⟩ : ∃ x, x = b + s2 := ⟨_, rfl⟩
              have hb3I : (b : Int) + (s2 : Int) = (b3 : Int) := by omega
              have hb3a : b + s2 ≤ b3 := by omega
              have hb3b : b3 ≤ b + s2 := by omega
              clear hb3d
              go_wp2_with fail
              refine HC.out.mono ?_
              rintro e w1 ⟨⟨u, rfl⟩, N, hin, hst, hsr, hf1⟩
              have HN := Lib.hid (show b = s2 * (q + 1) ∧ In w1 g n c N ∧ Stab 0 n L N ∧ Blk s2 0 b N ∧ Blk s b n N from ⟨by rw [Nat.mul_succ, ← HM.out.1]; omega, hin, HM.out.2.2.1.trans (hst.mono (by omega) hbn), HM.out.2.2.2.1.step HM.out.1 (by omega) hst hsr, HM.out.2.2.2.2.rest (by omega) hst⟩)
              have hf2 := hf.trans hf1 (fun _ _ h => h)
              clear hin hst hsr hf1 hf HC
              go_wp2_with fail
              go_roundw
              case rel => exact ⟨b, b3, q + 1, N, rfl, rfl, hbn, by omega, by omega, HN, hf2⟩
              case measure => simp [intOf]; omega
            · have hbI : ¬ (b : Int) ≤ (n : Int) := by omega
              by_cases hmn : m < n
              · have hmnI : (m : Int) < (n : Int) := by omega
                have HC := Lib.hid (sym_any g n c hn (n - a) a m n M wr (Nat.le_refl _) (by omega) hmn (Nat.le_refl _) HM.out.2.1 (HM.out.2.2.2.2.one HQ.out (by omega) (by omega)) (by have := HM.out.2.2.2.2.two HQ.out (e := n) (by omega) (Nat.le_refl _); rwa [← HMM.out] at this))
                go_wp2_with fail
                refine HC.out.mono ?_
                rintro e w1 ⟨⟨u, rfl⟩, N, hin, hst, hsr, hf1⟩
                have HN := Lib.hid (show In w1 g n c N ∧ Stab 0 n L N ∧ Blk s2 0 n N from ⟨hin, HM.out.2.2.1.trans (hst.mono (by omega) (Nat.le_refl _)), HM.out.2.2.2.1.step HM.out.1 (by omega) hst hsr⟩)
                have hf2 := hf.trans hf1 (fun _ _ h => h)
                clear hin hst hsr hf1 hf HC
                go_wp2_with fail
                go_roundw
                case rel => exact ⟨s2, N, rfl, by omega, by omega, HN, hf2⟩
                case measure => simp [intOf]; omega
              · have hmnI : ¬ (m : Int) < (n : Int) := by omega
                have HN := Lib.hid (show In wr g n c M ∧ Stab 0 n L M ∧ Blk s2 0 n M from ⟨HM.out.2.1, HM.out.2.2.1, HM.out.2.2.2.1.step HM.out.1 (by omega) (Stab.refl _ _ _) (HM.out.2.2.2.2.one HQ.out (by omega) (Nat.le_refl _))⟩)
                go_wp2_with fail
                go_roundw
                case rel => exact ⟨s2, M, rfl, by omega, by omega, HN, hf⟩
                case measure => simp [intOf]; omega
        · have hsI : ¬ (s : Int) < (n : Int) := by omega
          have HF := Lib.hid (show Srt 0 n K from HK.out.2.2.all (by omega))
          go_wp2_with fail
          go_returns
          exact ⟨⟨_, rfl⟩, K, HK.out.1, HK.out.2.1, HF.out, hfk⟩
theorem sortStable_any (L : List Edg) (g n c : Nat) (w : World) (h : In w g n c L) (hn : n ≤ 1000000) :
    Calls Try.prog 67 #[.slice (some ⟨g, 0, none⟩) n c, CMPF] w (Merged w g n c 0 n L) := by
  have HC := Lib.hid (stable_any L g n c w h hn)
  clear h
  go_enter Try.func67, Try.ntmps67
  go_wp2_with fail
  refine HC.out.mono ?_
  rintro e w1 ⟨⟨u, rfl⟩, hrest⟩
  have HR := Lib.hid hrest
  clear hrest
  go_wp2_with fail
  go_returns
  exact ⟨⟨_, rfl⟩, HR.out⟩
end Go.Proofs.Ytfdajignnnhnmaa
