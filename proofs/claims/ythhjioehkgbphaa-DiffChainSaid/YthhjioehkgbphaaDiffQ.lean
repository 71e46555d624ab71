/- two rising rows of rows side by side: what is new, gone, folded (plain) -/
import Derived.Test.YthhjioehkgbphaaDiffN
import Derived.Test.YthhjioehkgbphaaDiffP
namespace Go.Proofs.Ythhjioehkgbphaa
set_option linter.unusedVariables false
set_option linter.unusedSimpArgs false

def ltR (a b : List Val) : Prop := rcmp a b < 0
theorem ltR_irr (a : List Val) : ¬ ltR a a := fun h => by unfold ltR at h; rw [good_row.self] at h; omega
theorem ltR_trans {a b c : List Val} (h : ltR a b) (k : ltR b c) : ltR a c := by
  unfold ltR at *
  have := good_row.tr a b c (by omega) (by omega)
  omega
theorem ltR_ne {a b : List Val} (h : ltR a b) : a ≠ b := fun e => by subst e; exact ltR_irr _ h
abbrev Srt (l : List (List Val)) : Prop := l.Pairwise ltR
theorem srt_ext : ∀ {a b : List (List Val)}, Srt a → Srt b → (∀ l, l ∈ a ↔ l ∈ b) → a = b
  | [], [], _, _, _ => rfl
  | [], y :: b, _, _, h => absurd ((h y).2 (by simp)) (by simp)
  | x :: a, [], _, _, h => absurd ((h x).1 (by simp)) (by simp)
  | x :: a, y :: b, ha, hb, h => by
    obtain ⟨ha1, ha2⟩ := List.pairwise_cons.1 ha
    obtain ⟨hb1, hb2⟩ := List.pairwise_cons.1 hb
    have hxy : x = y := by
      rcases List.mem_cons.1 ((h x).1 (by simp)) with e | e
      · exact e
      · rcases List.mem_cons.1 ((h y).2 (by simp)) with e2 | e2
        · exact e2.symm
        · exact absurd (ltR_trans (ha1 y e2) (hb1 x e)) (ltR_irr _)
    subst hxy
    rw [srt_ext ha2 hb2 (fun l => ?_)]
    constructor
    · intro hl
      rcases List.mem_cons.1 ((h l).1 (by simp [hl])) with e | e
      · subst e; exact absurd (ha1 _ hl) (ltR_irr _)
      · exact e
    · intro hl
      rcases List.mem_cons.1 ((h l).2 (by simp [hl])) with e | e
      · subst e; exact absurd (hb1 _ hl) (ltR_irr _)
      · exact e
/-- what side by side is -/
structure Mok (xs ys : List (List Val)) (M : List (List Val × Bool × Bool)) : Prop where
  srt : Srt (M.map (·.1))
  fst : ∀ x ∈ M, (x.2.1 = true ↔ x.1 ∈ xs) ∧ (x.2.2 = true ↔ x.1 ∈ ys)
  mem : ∀ l, (l ∈ xs ∨ l ∈ ys) ↔ ∃ x ∈ M, x.1 = l
theorem Mok.cons {xs ys xs' ys' : List (List Val)} {M : List (List Val × Bool × Bool)} (h : Mok xs' ys' M) (a : List Val) (f s : Bool) (hx : ∀ l, l ∈ xs ↔ (f = true ∧ l = a) ∨ l ∈ xs') (hy : ∀ l, l ∈ ys ↔ (s = true ∧ l = a) ∨ l ∈ ys')
    (hlt : ∀ l, l ∈ xs' ∨ l ∈ ys' → ltR a l) (hfs : f = true ∨ s = true) : Mok xs ys ((a, f, s) :: M) := by
  refine ⟨?_, ?_, ?_⟩
  · refine List.pairwise_cons.2 ⟨fun l hl => ?_, h.srt⟩
    obtain ⟨x, hx', rfl⟩ := List.mem_map.1 hl
    exact hlt _ ((h.mem _).2 ⟨x, hx', rfl⟩)
  · intro x hxm
    rcases List.mem_cons.1 hxm with rfl | hm
    · have na : a ∉ xs' := fun e => ltR_irr _ (hlt a (.inl e))
      have nb : a ∉ ys' := fun e => ltR_irr _ (hlt a (.inr e))
      simp only
      rw [hx, hy]
      simp [na, nb]
    · have hne : x.1 ≠ a := fun e => by
        have := hlt x.1 ((h.mem _).2 ⟨x, hm, rfl⟩)
        rw [e] at this
        exact ltR_irr _ this
      rw [hx, hy, (h.fst x hm).1, (h.fst x hm).2]
      simp [hne]
  · intro l
    rw [hx, hy]
    constructor
    · rintro ((⟨_, rfl⟩ | h1) | (⟨_, rfl⟩ | h1))
      · exact ⟨_, List.mem_cons_self .., rfl⟩
      · obtain ⟨x, hxm, rfl⟩ := (h.mem l).1 (.inl h1); exact ⟨x, List.mem_cons_of_mem _ hxm, rfl⟩
      · exact ⟨_, List.mem_cons_self .., rfl⟩
      · obtain ⟨x, hxm, rfl⟩ := (h.mem l).1 (.inr h1); exact ⟨x, List.mem_cons_of_mem _ hxm, rfl⟩
    · rintro ⟨x, hxm, rfl⟩
      rcases List.mem_cons.1 hxm with rfl | hm
      · rcases hfs with e | e
        · exact .inl (.inl ⟨e, rfl⟩)
        · exact .inr (.inl ⟨e, rfl⟩)
      · rcases (h.mem x.1).2 ⟨x, hm, rfl⟩ with e | e
        · exact .inl (.inr e)
        · exact .inr (.inr e)
theorem mrg_ok (xs ys : List (List Val)) (hx : Srt xs) (hy : Srt ys) : Mok xs ys (mrgR xs ys) := by
  fun_induction mrgR xs ys with
  | case1 => exact ⟨by simp, by simp, by simp⟩
  | case2 b bs ih =>
    obtain ⟨h1, h2⟩ := List.pairwise_cons.1 hy
    exact (ih hx h2).cons b false true (by simp) (by simp) (by rintro l (h | h); · cases h
                                                               · exact h1 l h) (.inr rfl)
  | case3 a as' ih =>
    obtain ⟨h1, h2⟩ := List.pairwise_cons.1 hx
    exact (ih h2 hy).cons a true false (by simp) (by simp) (by rintro l (h | h); · exact h1 l h
                                                               · cases h) (.inl rfl)
  | case4 a as' b bs h ih =>
    obtain ⟨h1, h2⟩ := List.pairwise_cons.1 hx
    obtain ⟨h3, h4⟩ := List.pairwise_cons.1 hy
    refine (ih h2 hy).cons a true false (by simp) (by simp) ?_ (.inl rfl)
    rintro l (hl | hl)
    · exact h1 l hl
    · rcases List.mem_cons.1 hl with rfl | hl
      · exact h
      · exact ltR_trans h (h3 l hl)
  | case5 a as' b bs h h' ih =>
    obtain ⟨h1, h2⟩ := List.pairwise_cons.1 hx
    obtain ⟨h3, h4⟩ := List.pairwise_cons.1 hy
    obtain rfl : a = b := (good_row.eq a b).1 h'
    refine (ih h2 h4).cons a true true (by simp) (by simp) ?_ (.inl rfl)
    rintro l (hl | hl)
    · exact h1 l hl
    · exact h3 l hl
  | case6 a as' b bs h h' ih =>
    obtain ⟨h1, h2⟩ := List.pairwise_cons.1 hx
    obtain ⟨h3, h4⟩ := List.pairwise_cons.1 hy
    have hba : ltR b a := by unfold ltR; rw [good_row.anti]; omega
    refine (ih hx h4).cons b false true (by simp) (by simp) ?_ (.inr rfl)
    rintro l (hl | hl)
    · rcases List.mem_cons.1 hl with rfl | hl
      · exact hba
      · exact ltR_trans hba (h1 l hl)
    · exact h3 l hl
section
variable {xs ys : List (List Val)} {M : List (List Val × Bool × Bool)} (h : Mok xs ys M)
include h
theorem Mok.flt (p : List Val × Bool × Bool → Bool) : Srt ((M.filter p).map (·.1)) := h.srt.sublist ((List.filter_sublist (p := p) (l := M)).map _)
theorem Mok.pls_mem (l : List Val) : l ∈ pls M ↔ l ∈ ys ∧ l ∉ xs := by
  unfold pls
  simp only [List.mem_map, List.mem_filter, Bool.and_eq_true, Bool.not_eq_true']
  constructor
  · rintro ⟨x, ⟨hx, h1, h2⟩, rfl⟩
    refine ⟨(h.fst x hx).2.1 h2, fun e => ?_⟩
    rw [(h.fst x hx).1.2 e] at h1; cases h1
  · rintro ⟨h1, h2⟩
    obtain ⟨x, hx, rfl⟩ := (h.mem l).1 (.inr h1)
    refine ⟨x, ⟨hx, ?_, (h.fst x hx).2.2 h1⟩, rfl⟩
    cases e : x.2.1
    · rfl
    · exact absurd ((h.fst x hx).1.1 e) h2
theorem Mok.mns_mem (l : List Val) : l ∈ mns M ↔ l ∈ xs ∧ l ∉ ys := by
  unfold mns
  simp only [List.mem_map, List.mem_filter, Bool.and_eq_true, Bool.not_eq_true']
  constructor
  · rintro ⟨x, ⟨hx, h1, h2⟩, rfl⟩
    refine ⟨(h.fst x hx).1.1 h1, fun e => ?_⟩
    rw [(h.fst x hx).2.2 e] at h2; cases h2
  · rintro ⟨h1, h2⟩
    obtain ⟨x, hx, rfl⟩ := (h.mem l).1 (.inl h1)
    refine ⟨x, ⟨hx, (h.fst x hx).1.2 h1, ?_⟩, rfl⟩
    cases e : x.2.2
    · rfl
    · exact absurd ((h.fst x hx).2.1 e) h2
theorem Mok.lft_mem (l : List Val) : l ∈ lft M ↔ l ∈ xs ∧ l ∉ ys := by
  unfold lft
  simp only [List.mem_map, List.mem_filter, Bool.not_eq_true']
  constructor
  · rintro ⟨x, ⟨hx, h2⟩, rfl⟩
    have hn : x.1 ∉ ys := fun e => by rw [(h.fst x hx).2.2 e] at h2; cases h2
    exact ⟨((h.mem x.1).2 ⟨x, hx, rfl⟩).resolve_right hn, hn⟩
  · rintro ⟨h1, h2⟩
    obtain ⟨x, hx, rfl⟩ := (h.mem l).1 (.inl h1)
    refine ⟨x, ⟨hx, ?_⟩, rfl⟩
    cases e : x.2.2
    · rfl
    · exact absurd ((h.fst x hx).2.1 e) h2
theorem Mok.uni_mem (l : List Val) : l ∈ uni M ↔ l ∈ xs ∨ l ∈ ys := by
  unfold uni
  rw [h.mem]
  simp
theorem Mok.fst_eq : Srt xs → (M.filter (·.2.1)).map (·.1) = xs := fun hs => srt_ext (h.flt _) hs fun l => by
  simp only [List.mem_map, List.mem_filter]
  constructor
  · rintro ⟨x, ⟨hx, h1⟩, rfl⟩; exact (h.fst x hx).1.1 h1
  · intro hl
    obtain ⟨x, hx, rfl⟩ := (h.mem l).1 (.inl hl)
    exact ⟨x, ⟨hx, (h.fst x hx).1.2 hl⟩, rfl⟩
theorem Mok.snd_eq : Srt ys → (M.filter (·.2.2)).map (·.1) = ys := fun hs => srt_ext (h.flt _) hs fun l => by
  simp only [List.mem_map, List.mem_filter]
  constructor
  · rintro ⟨x, ⟨hx, h1⟩, rfl⟩; exact (h.fst x hx).2.1 h1
  · intro hl
    obtain ⟨x, hx, rfl⟩ := (h.mem l).1 (.inr hl)
    exact ⟨x, ⟨hx, (h.fst x hx).2.2 hl⟩, rfl⟩
end
theorem cnt_marks (M : List (List Val × Bool × Bool)) : (M.filter (·.2.2)).length + (mns M).length = (M.filter (·.2.1)).length + (pls M).length := by
  unfold mns pls
  rw [List.length_map, List.length_map]
  induction M with
  | nil => rfl
  | cons x M ih =>
    obtain ⟨l, f, s⟩ := x
    cases f <;> cases s <;> simp at ih ⊢ <;> omega

/-- right: rising, of right values -/
theorem rgt_some : ∀ {ls : List (List Val)} {y : List Val}, rgt (some y) ls = true ↔ (∀ l ∈ ls, l.all valR = true) ∧ Srt (y :: ls)
  | [], y => by simp [rgt]
  | x :: ls, y => by
    rw [rgt]
    simp only [Bool.and_eq_true, decide_eq_true_eq]
    rw [rgt_some]
    constructor
    · rintro ⟨⟨h1, h2⟩, h3, h4⟩
      refine ⟨fun l hl => (List.mem_cons.1 hl).elim (fun e => by rw [e]; exact h1) (h3 l), List.pairwise_cons.2 ⟨fun l hl => ?_, h4⟩⟩
      rcases List.mem_cons.1 hl with rfl | hl
      · exact h2
      · exact ltR_trans h2 ((List.pairwise_cons.1 h4).1 l hl)
    · rintro ⟨h1, h2⟩
      obtain ⟨h3, h4⟩ := List.pairwise_cons.1 h2
      exact ⟨⟨h1 x (by simp), h3 x (by simp)⟩, fun l hl => h1 l (by simp [hl]), h4⟩
theorem rgt_none {ls : List (List Val)} : rgt none ls = true ↔ (∀ l ∈ ls, l.all valR = true) ∧ Srt ls := by
  cases ls with
  | nil => simp [rgt]
  | cons x ls =>
    rw [rgt]
    simp only [Bool.and_true, Bool.and_eq_true]
    rw [rgt_some]
    constructor
    · rintro ⟨h1, h2, h3⟩
      exact ⟨fun l hl => (List.mem_cons.1 hl).elim (fun e => by rw [e]; exact h1) (h2 l), h3⟩
    · rintro ⟨h1, h2⟩
      exact ⟨h1 x (by simp), fun l hl => h1 l (by simp [hl]), h2⟩
/-- all that is asked of the parts -/
structure Parts (xs ys : List (List Val)) : Prop where
  rp : rgt none (pls (mrgR xs ys)) = true
  rm : rgt none (mns (mrgR xs ys)) = true
  q : pls (mrgR ys xs) = mns (mrgR xs ys)
  n : mns (mrgR ys xs) = pls (mrgR xs ys)
  f1 : ∀ x ∈ mrgR xs (pls (mrgR xs ys)), (x.2.1 && x.2.2) = false
  f2 : ∀ x ∈ mrgR xs (mns (mrgR xs ys)), x.2.1 = true
  fold : uni (mrgR (lft (mrgR xs (mns (mrgR xs ys)))) (pls (mrgR xs ys))) = ys
  sub : ∀ l ∈ lft (mrgR xs (mns (mrgR xs ys))), l ∈ xs
  ll : (lft (mrgR xs (mns (mrgR xs ys)))).length ≤ xs.length
  pm : ∀ l, l ∈ pls (mrgR xs ys) ↔ l ∈ ys ∧ l ∉ xs
  mm : ∀ l, l ∈ mns (mrgR xs ys) ↔ l ∈ xs ∧ l ∉ ys
  cnt : ys.length + (mns (mrgR xs ys)).length = xs.length + (pls (mrgR xs ys)).length
theorem parts (xs ys : List (List Val)) (hx : rgt none xs = true) (hy : rgt none ys = true) : Parts xs ys := by
  obtain ⟨vx, sx⟩ := rgt_none.1 hx
  obtain ⟨vy, sy⟩ := rgt_none.1 hy
  have M := mrg_ok xs ys sx sy
  have M' := mrg_ok ys xs sy sx
  have sp : Srt (pls (mrgR xs ys)) := M.flt _
  have sm : Srt (mns (mrgR xs ys)) := M.flt _
  have P1 := mrg_ok xs (pls (mrgR xs ys)) sx sp
  have P2 := mrg_ok xs (mns (mrgR xs ys)) sx sm
  have sl : Srt (lft (mrgR xs (mns (mrgR xs ys)))) := P2.flt _
  have P3 := mrg_ok _ (pls (mrgR xs ys)) sl sp
  refine ⟨rgt_none.2 ⟨fun l hl => vy l ((M.pls_mem l).1 hl).1, sp⟩, rgt_none.2 ⟨fun l hl => vx l ((M.mns_mem l).1 hl).1, sm⟩, srt_ext (M'.flt _) sm fun l => ?_, srt_ext (M'.flt _) sp fun l => ?_, fun x hxm => ?_, fun x hxm => ?_, srt_ext P3.srt sy fun l => ?_, fun l hl => ((P2.lft_mem l).1 hl).1, ?_, M.pls_mem, M.mns_mem, ?_⟩
  · exact (M'.pls_mem l).trans (M.mns_mem l).symm
  · exact (M'.mns_mem l).trans (M.pls_mem l).symm
  · cases e : (x.2.1 && x.2.2)
    · rfl
    · simp only [Bool.and_eq_true] at e
      have h1 := (P1.fst x hxm).1.1 e.1
      have h2 := (M.pls_mem _).1 ((P1.fst x hxm).2.1 e.2)
      exact absurd h1 h2.2
  · rcases (P2.mem x.1).2 ⟨x, hxm, rfl⟩ with h | h
    · exact (P2.fst x hxm).1.2 h
    · exact (P2.fst x hxm).1.2 ((M.mns_mem _).1 h).1
  · have := P3.uni_mem l
    rw [this, P2.lft_mem, M.pls_mem, M.mns_mem]
    constructor
    · rintro (⟨h1, h2⟩ | h)
      · exact Classical.byContradiction fun e => h2 ⟨h1, e⟩
      · exact h.1
    · intro h
      by_cases e : l ∈ xs
      · exact .inl ⟨e, fun h' => h'.2 h⟩
      · exact .inr ⟨h, e⟩
  · have e3 := congrArg List.length (P2.fst_eq sx)
    rw [List.length_map, show (mrgR xs (mns (mrgR xs ys))).filter (·.2.1) = mrgR xs (mns (mrgR xs ys)) from List.filter_eq_self.2 fun x hxm => by
      rcases (P2.mem x.1).2 ⟨x, hxm, rfl⟩ with h | h
      · exact (P2.fst x hxm).1.2 h
      · exact (P2.fst x hxm).1.2 ((M.mns_mem _).1 h).1] at e3
    have e4 : (lft (mrgR xs (mns (mrgR xs ys)))).length ≤ (mrgR xs (mns (mrgR xs ys))).length := by
      unfold lft
      rw [List.length_map]
      exact List.length_filter_le _ _
    omega
  · have := cnt_marks (mrgR xs ys)
    have e1 := congrArg List.length (M.snd_eq sy)
    have e2 := congrArg List.length (M.fst_eq sx)
    rw [List.length_map] at e1 e2
    omega
end Go.Proofs.Ythhjioehkgbphaa
