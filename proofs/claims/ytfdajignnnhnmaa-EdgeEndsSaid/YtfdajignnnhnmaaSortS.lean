/- rows of edges: two runs in order are made one: the plain law -/
import Derived.Test.YtfdajignnnhnmaaSortP
namespace Go.Proofs.Ytfdajignnnhnmaa
set_option linter.unusedVariables false
set_option linter.unusedSimpArgs false
open Go.RowKit Go.Shelf

/-- the first one is moved up to k -/
structure MovU (a k : Nat) (L N : List Edg) : Prop where
  at' : eat N k = eat L a
  lo : ∀ q, a ≤ q → q < k → eat N q = eat L (q + 1)
  hi : ∀ q, k < q → eat N q = eat L q
theorem MovU.start (a : Nat) (L : List Edg) : MovU a a L L := ⟨rfl, fun q h1 h2 => by omega, fun _ _ => rfl⟩
theorem MovU.step {a k : Nat} {L N : List Edg} (h : MovU a k L N) (hk : a ≤ k) (hn : k + 1 < N.length) : MovU a (k + 1) L (eswp N k (k + 1)) := by
  have e := eswp_at (L := N) (i := k) (j := k + 1) (by omega) hn
  refine ⟨?_, fun q h1 h2 => ?_, fun q h1 => ?_⟩
  · rw [e, if_pos rfl]; exact h.at'
  · rw [e, if_neg (by omega)]
    by_cases e2 : q = k
    · rw [if_pos e2, h.hi (k + 1) (by omega), e2]
    · rw [if_neg e2]; exact h.lo q h1 (by omega)
  · rw [e, if_neg (by omega), if_neg (by omega)]; exact h.hi q (by omega)
theorem MovU.fin {a m b i : Nat} {L N : List Edg} (h : MovU a (i - 1) L N) (hm : m = a + 1) (h2 : Srt m b L) (hi1 : m ≤ i) (hi2 : i ≤ b) (hlo : ∀ q, m ≤ q → q < i → eLt (eat L q) (eat L a)) (hhi : ∀ q, i ≤ q → q < b → ¬ eLt (eat L q) (eat L a)) : Srt a b N := by
  intro p q h3 h4 h5
  by_cases e1 : q < i - 1
  · rw [h.lo p h3 (by omega), h.lo q (by omega) e1]
    exact h2 (p + 1) (q + 1) (by omega) (by omega) (by omega)
  · by_cases e2 : q = i - 1
    · subst e2
      rw [h.at', h.lo p h3 (by omega)]
      exact eLt_eLe (hlo (p + 1) (by omega) (by omega))
    · rw [h.hi q (by omega)]
      by_cases e3 : p < i - 1
      · rw [h.lo p h3 e3]
        exact h2.le (by omega) (by omega) h5
      · by_cases e4 : p = i - 1
        · subst e4
          rw [h.at']
          exact not_lt (hhi q (by omega) h5)
        · rw [h.hi p (by omega)]
          exact h2 p q (by omega) h4 h5
/-- the last one is moved down to k -/
structure MovD (m k : Nat) (L N : List Edg) : Prop where
  at' : eat N k = eat L m
  hi : ∀ q, k < q → q ≤ m → eat N q = eat L (q - 1)
  lo : ∀ q, q < k → eat N q = eat L q
theorem MovD.start (m : Nat) (L : List Edg) : MovD m m L L := ⟨rfl, fun q h1 h2 => by omega, fun _ _ => rfl⟩
theorem MovD.step {m k : Nat} {L N : List Edg} (h : MovD m (k + 1) L N) (hk : k + 1 ≤ m) (hn : k + 1 < N.length) : MovD m k L (eswp N (k + 1) k) := by
  have e := eswp_at (L := N) (i := k + 1) (j := k) hn (by omega)
  refine ⟨?_, fun q h1 h2 => ?_, fun q h1 => ?_⟩
  · rw [e, if_pos rfl]; exact h.at'
  · rw [e, if_neg (by omega)]
    by_cases e2 : q = k + 1
    · rw [if_pos e2, h.lo k (by omega), e2]; rfl
    · rw [if_neg e2]; exact h.hi q (by omega) h2
  · rw [e, if_neg (by omega), if_neg (by omega)]; exact h.lo q (by omega)
theorem MovD.fin {a m b i : Nat} {L N : List Edg} (h : MovD m i L N) (hm : b = m + 1) (h2 : Srt a m L) (hi1 : a ≤ i) (hi2 : i ≤ m) (hlo : ∀ q, a ≤ q → q < i → ¬ eLt (eat L m) (eat L q)) (hhi : ∀ q, i ≤ q → q < m → eLt (eat L m) (eat L q)) : Srt a b N := by
  intro p q h3 h4 h5
  by_cases e1 : q < i
  · rw [h.lo p (by omega), h.lo q e1]
    exact h2 p q h3 h4 (by omega)
  · by_cases e2 : q = i
    · subst e2
      rw [h.at', h.lo p h4]
      exact not_lt (hlo p h3 h4)
    · rw [h.hi q (by omega) (by omega)]
      by_cases e3 : p < i
      · rw [h.lo p e3]
        exact h2.le h3 (by omega) (by omega)
      · by_cases e4 : p = i
        · subst e4
          rw [h.at']
          exact eLt_eLe (hhi (q - 1) (by omega) (by omega))
        · rw [h.hi p (by omega) (by omega)]
          exact h2 (p - 1) (q - 1) (by omega) (by omega) (by omega)
/-- the middle, where one looks for the place to cut: c stands against s - 1 - c -/
theorem cut_up {a m b s c : Nat} {L : List Edg} (h1 : Srt a m L) (h2 : Srt m b L) {h : Nat} (hah : a ≤ c) (hch : c ≤ h) (hhm : h < m) (hlo : m ≤ s - 1 - h) (hhi : s - 1 - c < b) (hlt : ¬ eLt (eat L (s - 1 - h)) (eat L h)) : ¬ eLt (eat L (s - 1 - c)) (eat L c) := by
  intro hc
  refine hlt ?_
  exact eLe_lt (h2.le hlo (by omega) hhi) (eLt_le hc (h1.le hah hch hhm))
theorem cut_dn {a m b s c : Nat} {L : List Edg} (h1 : Srt a m L) (h2 : Srt m b L) {h : Nat} (hah : a ≤ h) (hch : h ≤ c) (hcm : c < m) (hlo : m ≤ s - 1 - c) (hhi : s - 1 - h < b) (hlt : eLt (eat L (s - 1 - h)) (eat L h)) : eLt (eat L (s - 1 - c)) (eat L c) :=
  eLe_lt (h2.le hlo (by omega) hhi) (eLt_le hlt (h1.le hah hch hcm))
/-- two runs change places -/
def rot (s m e : Nat) (L : List Edg) : List Edg := L.take s ++ (seg m e L ++ (seg s m L ++ L.drop e))
theorem seg_len {a b : Nat} {L : List Edg} (hb : b ≤ L.length) : (seg a b L).length = b - a := by unfold seg; rw [List.length_take, List.length_drop]; omega
theorem rot_split {s m e : Nat} {L : List Edg} (h1 : s ≤ m) (h2 : m ≤ e) : L = L.take s ++ (seg s m L ++ (seg m e L ++ L.drop e)) := by
  have e1 := seg_split s m L h1
  have e2 : L.drop m = seg m e L ++ L.drop e := by
    unfold seg
    have : (L.drop m).drop (e - m) = L.drop e := by rw [List.drop_drop]; congr 1; omega
    rw [← this, List.take_append_drop]
  rw [← e2]; exact e1
theorem rot_len {s m e : Nat} {L : List Edg} (h1 : s ≤ m) (h2 : m ≤ e) (he : e ≤ L.length) : (rot s m e L).length = L.length := by
  unfold rot
  simp only [List.length_append, List.length_take, List.length_drop, seg_len he, seg_len (show m ≤ L.length by omega)]
  omega
theorem rot_get {s m e : Nat} {L : List Edg} (h1 : s ≤ m) (h2 : m ≤ e) (he : e ≤ L.length) (q : Nat) : (rot s m e L)[q]? = if q < s then L[q]? else if q < s + (e - m) then L[q - s + m]? else if q < e then L[q - (e - m)]? else L[q]? := by
  have l1 : (L.take s).length = s := by rw [List.length_take]; omega
  have l2 := seg_len (a := m) he
  have l3 := seg_len (a := s) (show m ≤ L.length by omega)
  unfold rot
  by_cases c1 : q < s
  · rw [if_pos c1, List.getElem?_append_left (by omega), List.getElem?_take, if_pos c1]
  · rw [if_neg c1, List.getElem?_append_right (by omega), l1]
    by_cases c2 : q < s + (e - m)
    · rw [if_pos c2, List.getElem?_append_left (by omega)]
      have := seg_get (L := L) (a := m) (b := e) (i := q - s + m) (by omega) (by omega)
      rwa [show q - s + m - m = q - s by omega] at this
    · rw [if_neg c2, List.getElem?_append_right (by omega), l2]
      by_cases c3 : q < e
      · rw [if_pos c3, List.getElem?_append_left (by omega)]
        have := seg_get (L := L) (a := s) (b := m) (i := q - (e - m)) (by omega) (by omega)
        rwa [show q - (e - m) - s = q - s - (e - m) by omega] at this
      · rw [if_neg c3, List.getElem?_append_right (by omega), l3, List.getElem?_drop]
        congr 1; omega
theorem rot_at {s m e : Nat} {L : List Edg} (h1 : s ≤ m) (h2 : m ≤ e) (he : e ≤ L.length) (q : Nat) : eat (rot s m e L) q = if q < s then eat L q else if q < s + (e - m) then eat L (q - s + m) else if q < e then eat L (q - (e - m)) else eat L q := by
  unfold eat
  rw [List.getD_eq_getElem?_getD, rot_get h1 h2 he]
  split
  · rw [List.getD_eq_getElem?_getD]
  · split
    · rw [List.getD_eq_getElem?_getD]
    · split
      · rw [List.getD_eq_getElem?_getD]
      · rw [List.getD_eq_getElem?_getD]
theorem filter_swap (U V : List Edg) (k : EKey) (h : ∀ x ∈ U, ∀ y ∈ V, ekey x ≠ ekey y) : (V ++ U).filter (isK k) = (U ++ V).filter (isK k) := by
  rw [List.filter_append, List.filter_append]
  by_cases hU : U.filter (isK k) = []
  · rw [hU]; simp
  · have hV : V.filter (isK k) = [] := by
      obtain ⟨x, hx⟩ := List.exists_mem_of_ne_nil _ hU
      obtain ⟨hx1, hx2⟩ := List.mem_filter.1 hx
      rw [List.filter_eq_nil_iff]
      intro y hy hy2
      exact h x hx1 y hy ((isK_eq hx2).trans (isK_eq hy2).symm)
    rw [hV]; simp
theorem rot_stab {a b s m e : Nat} {L : List Edg} (h1 : s ≤ m) (h2 : m ≤ e) (he : e ≤ L.length) (ha : a ≤ s) (hb : e ≤ b) (h : ∀ x ∈ seg s m L, ∀ y ∈ seg m e L, ekey x ≠ ekey y) : Stab a b L (rot s m e L) := by
  refine ⟨rot_len h1 h2 he, fun i hi => ?_, fun k => ?_⟩
  · rw [rot_get h1 h2 he]
    rcases hi with hi | hi
    · rw [if_pos (by omega)]
    · rw [if_neg (by omega), if_neg (by omega), if_neg (by omega)]
  · have e1 := rot_split (L := L) h1 h2
    have e2 := filter_swap _ _ k h
    have e3 : ∀ Z, (seg m e L).filter (isK k) ++ ((seg s m L).filter (isK k) ++ Z) = (seg s m L).filter (isK k) ++ ((seg m e L).filter (isK k) ++ Z) := fun Z => by
      rw [← List.append_assoc, ← List.filter_append, e2, List.filter_append, List.append_assoc]
    unfold rot
    conv => rhs; rw [e1]
    simp only [List.filter_append]
    rw [e3]
/-- what the cut leaves -/
structure Cut (a m b mid : Nat) (L M : List Edg) (s e : Nat) : Prop where
  stab : Stab a b L M
  s1 : Srt a s M
  s2 : Srt s mid M
  s3 : Srt mid e M
  s4 : Srt e b M
  cross : ∀ p q, a ≤ p → p < mid → mid ≤ q → q < b → eLe (eat M p) (eat M q)
theorem cut_of {a m b mid s e lo hi : Nat} {L : List Edg} (hL1 : Srt a m L) (hL2 : Srt m b L) (ham : a < m) (hmb : m < b) (hb : b ≤ L.length) (hmid : mid = (a + b) / 2) (hs1 : lo ≤ s) (hs2 : s ≤ hi) (he : e = mid + m - s)
    (hlh : (mid < m ∧ lo = mid + m - b ∧ hi = mid) ∨ (m ≤ mid ∧ lo = a ∧ hi = m))
    (hdn : ∀ c, lo ≤ c → c < s → ¬ eLt (eat L (mid + m - 1 - c)) (eat L c)) (hup : ∀ c, s ≤ c → c < hi → eLt (eat L (mid + m - 1 - c)) (eat L c)) : Cut a m b mid L (rot s m e L) s e := by
  have hsm : s ≤ m := by omega
  have hme : m ≤ e := by omega
  have heb : e ≤ b := by omega
  have has : a ≤ s := by omega
  have hse : s + (e - m) = mid := by omega
  have hR := rot_at (L := L) hsm hme (by omega)
  have hUV : ∀ p q, s ≤ p → p < m → m ≤ q → q < e → eLt (eat L q) (eat L p) := fun p q h1 h2 h3 h4 => by
    have h5 := hup s (Nat.le_refl _) (by omega)
    rw [show mid + m - 1 - s = e - 1 by omega] at h5
    exact eLe_lt (hL2.le h3 (by omega) (by omega)) (eLt_le h5 (hL1.le has h1 h2))
  refine ⟨rot_stab hsm hme (by omega) has heb (fun x hx y hy => ?_), ?_, ?_, ?_, ?_, ?_⟩
  · obtain ⟨p, p1, p2, rfl⟩ := seg_mem (by omega) hx
    obtain ⟨q, q1, q2, rfl⟩ := seg_mem (by omega) hy
    exact (eLt_key (hUV p q p1 p2 q1 q2)).symm
  · intro p q h1 h2 h3
    rw [hR, hR, if_pos (by omega), if_pos h3]
    exact hL1 p q h1 h2 (by omega)
  · intro p q h1 h2 h3
    rw [hR, hR, if_neg (by omega), if_pos (by omega), if_neg (by omega), if_pos (by omega)]
    exact hL2 _ _ (by omega) (by omega) (by omega)
  · intro p q h1 h2 h3
    rw [hR, hR, if_neg (by omega), if_neg (by omega), if_pos (by omega), if_neg (by omega), if_neg (by omega), if_pos (by omega)]
    exact hL1 _ _ (by omega) (by omega) (by omega)
  · intro p q h1 h2 h3
    rw [hR, hR, if_neg (by omega), if_neg (by omega), if_neg (by omega), if_neg (by omega), if_neg (by omega), if_neg (by omega)]
    exact hL2 _ _ (by omega) (by omega) (by omega)
  · intro p q h1 h2 h3 h4
    rw [hR, hR]
    rw [if_neg (show ¬ q < s by omega), if_neg (show ¬ q < s + (e - m) by omega)]
    by_cases c1 : p < s
    · rw [if_pos c1]
      by_cases c2 : q < e
      · rw [if_pos c2]
        exact hL1.le h1 (by omega) (by omega)
      · rw [if_neg c2]
        have h5 := hdn (s - 1) (by omega) (by omega)
        rw [show mid + m - 1 - (s - 1) = e by omega] at h5
        exact eLe_trans (hL1.le h1 (by omega) (by omega)) (eLe_trans (not_lt h5) (hL2.le hme (by omega) h4))
    · rw [if_neg c1, if_pos (by omega)]
      by_cases c2 : q < e
      · rw [if_pos c2]
        exact eLt_eLe (hUV _ _ (by omega) (by omega) (by omega) (by omega))
      · rw [if_neg c2]
        exact hL2.le (by omega) (by omega) h4
/-- both halves in order: the whole is -/
theorem join_of {a b mid : Nat} {L M N : List Edg} (hab : a ≤ mid) (hmb : mid ≤ b) (hb : b ≤ L.length) (hc : ∀ p q, a ≤ p → p < mid → mid ≤ q → q < b → eLe (eat L p) (eat L q)) (h1 : Stab a mid L M) (h2 : Stab mid b M N) (s1 : Srt a mid M) (s2 : Srt mid b N) : Srt a b N := by
  have hlen := h1.len
  intro p q h3 h4 h5
  by_cases c1 : q < mid
  · rw [h2.at (.inl (by omega)), h2.at (.inl c1)]
    exact s1 p q h3 h4 c1
  · by_cases c2 : p < mid
    · rw [h2.at (.inl c2)]
      obtain ⟨q', q1, q2, q3⟩ := h2.back (by omega) (by omega) (show mid ≤ q by omega) h5
      obtain ⟨p', p1, p2, p3⟩ := h1.back (by omega) (by omega) h3 c2
      rw [q3, p3, h1.at (.inr q1)]
      exact hc p' q' p1 p2 q1 q2
    · exact s2 p q (by omega) h4 h5
end Go.Proofs.Ytfdajignnnhnmaa
