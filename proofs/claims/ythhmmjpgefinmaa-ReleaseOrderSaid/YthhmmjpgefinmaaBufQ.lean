/- edges that wait: the plain law of one time's row -/
import Derived.Test.YthhmmjpgefinmaaBufP
import Derived.Test.YthhmmjpgefinmaaBufG
import Derived.Test.YthhmmjpgefinmaaBufS
import Derived.Test.YthhmmjpgefinmaaHeapH
import Derived.Test.YthhmmjpgefinmaaMapA
namespace Go.Proofs.Ythhmmjpgefinmaa
set_option linter.unusedVariables false
set_option linter.unusedSimpArgs false
open Go.RowKit Go.Shelf

theorem gr_mem {t : Int} {s : List Out} {o : Out} : o ∈ gr t s ↔ o ∈ s ∧ otm o = t := by simp [gr, List.mem_filter]
theorem gr_str {t : Int} {s : List Out} (h : OStr s) : OStr (gr t s) := List.Pairwise.sublist List.filter_sublist h
theorem gr_ins {o : Out} {s : List Out} (h : OStr s) (t : Int) : gr t (insO o s) = if otm o = t then insO o (gr t s) else gr t s := by
  have := insO_filter (o := o) (fun o => decide (otm o = t)) h
  unfold gr
  rw [this]
  simp
theorem gr_cons (o : Out) (s : List Out) (t : Int) : gr t (o :: s) = if otm o = t then o :: gr t s else gr t s := by
  unfold gr
  rw [List.filter_cons]
  simp
theorem gr_nil {t : Int} {s : List Out} : gr t s = [] ↔ ¬ ∃ o ∈ s, otm o = t := by
  unfold gr
  rw [List.filter_eq_nil_iff]
  simp
theorem ekey_out (E : Edg) : ekey E = okey (outE E) := rfl
theorem ecmp_out (A B : Edg) : ecmp A B = kcmp (okey (outE A)) (okey (outE B)) := ecmp_key A B
theorem str_at {L : List Edg} (h : OStr (L.map outE)) {p q : Nat} (hpq : p < q) (hq : q < L.length) : kcmp (okey (outE (eat L p))) (okey (outE (eat L q))) < 0 := by
  have h1 := List.pairwise_iff_getElem.1 h p q (by simp; omega) (by simpa using hq) hpq
  have e1 := eat_get (L := L) (k := p) (by omega)
  have e2 := eat_get (L := L) (k := q) hq
  simp only [List.getElem_map] at h1
  rw [List.getElem?_eq_getElem (by omega)] at e1 e2
  rw [Option.some.inj e1, Option.some.inj e2] at h1
  exact h1
theorem str_down {L : List Edg} (h : OStr (L.map outE)) (E : Edg) : ∀ p q, p ≤ q → q < L.length → ecmp (eat L q) E < 0 → ecmp (eat L p) E < 0 := fun p q hpq hq hlt => by
  rcases Nat.lt_or_eq_of_le hpq with h1 | h1
  · rw [ecmp_out] at hlt ⊢
    exact key_lt (str_at h h1 hq) hlt
  · rw [h1]; exact hlt
theorem spot_is {L : List Edg} {E : Edg} {k : Nat} (h : OStr (L.map outE)) (hs : Spot L E k) : (decide (k < L.length) && decide (ecmp (eat L k) E = 0)) = hasO (okey (outE E)) (L.map outE) := by
  have h1 : hasO (okey (outE E)) (L.map outE) = true ↔ ∃ q, q < L.length ∧ ecmp (eat L q) E = 0 := by
    unfold hasO
    rw [List.any_eq_true]
    constructor
    · rintro ⟨o, ho, hk⟩
      obtain ⟨A, hA, rfl⟩ := List.mem_map.1 ho
      obtain ⟨q, hq, rfl⟩ := List.getElem_of_mem hA
      refine ⟨q, hq, ?_⟩
      have e1 := eat_get (L := L) (k := q) hq
      rw [List.getElem?_eq_getElem hq] at e1
      rw [← Option.some.inj e1, ecmp_out]
      simpa [isO] using hk
    · rintro ⟨q, hq, he⟩
      refine ⟨outE (eat L q), List.mem_map.2 ⟨_, List.mem_of_getElem? (eat_get hq), rfl⟩, ?_⟩
      rw [ecmp_out] at he
      simp [isO, he]
  rw [Bool.eq_iff_iff, h1]
  simp only [Bool.and_eq_true, decide_eq_true_eq]
  constructor
  · rintro ⟨a, b⟩; exact ⟨k, a, b⟩
  · rintro ⟨q, hq, he⟩
    have hkq : k ≤ q := by
      by_cases hc : k ≤ q
      · exact hc
      · have := hs.lo q (by omega); omega
    rcases Nat.lt_or_eq_of_le hkq with h2 | h2
    · exfalso
      have h3 := str_at h h2 hq
      rw [ecmp_out] at he
      have e3 := (good_key.eq _ _).1 he
      rw [e3] at h3
      exact hs.hi k (Nat.le_refl _) (by omega) (by rw [ecmp_out]; exact h3)
    · subst h2; exact ⟨hq, he⟩
theorem spot_ins {L : List Edg} {E : Edg} {k : Nat} (h : OStr (L.map outE)) (hs : Spot L E k) (hno : hasO (okey (outE E)) (L.map outE) = false) : (L.take k ++ E :: L.drop k).map outE = insO (outE E) (L.map outE) := by
  rw [← spot_is h hs] at hno
  rw [insO_at (k := k) (by simpa using hs.le) (fun j a hj ha => ?_) (fun a ha => ?_)]
  · simp [List.map_take, List.map_drop]
  · rw [List.getElem?_map, eat_get (by have := hs.le; omega)] at ha
    cases ha
    have h1 := hs.lo j hj
    rw [ecmp_out] at h1
    have := good_key.anti (okey (outE E)) (okey (outE (eat L j)))
    omega
  · have hk : k < L.length := by have := (List.getElem?_eq_some_iff.1 ha).1; simpa using this
    rw [List.getElem?_map, eat_get hk] at ha
    cases ha
    have h1 := hs.hi k (Nat.le_refl _) hk
    have h2 : ¬ ecmp (eat L k) E = 0 := by simpa [hk] using hno
    rw [ecmp_out] at h1 h2
    have := good_key.anti (okey (outE E)) (okey (outE (eat L k)))
    omega
theorem hasO_gr (k : EKey) (s : List Out) : hasO k (gr k.1 s) = hasO k s := by
  unfold hasO gr
  rw [List.any_filter, Bool.eq_iff_iff, List.any_eq_true, List.any_eq_true]
  constructor
  · rintro ⟨o, ho, h⟩
    simp only [Bool.and_eq_true] at h
    exact ⟨o, ho, h.2⟩
  · rintro ⟨o, ho, h⟩
    refine ⟨o, ho, ?_⟩
    have := isO_eq h
    simp only [Bool.and_eq_true, decide_eq_true_eq]
    exact ⟨by rw [← this]; rfl, h⟩
theorem split_gr : ∀ {s : List Out} {t : Int}, OStr s → (∀ o ∈ s, t ≤ otm o) → s = gr t s ++ s.filter (fun o => !decide (otm o = t))
  | [], t, _, _ => rfl
  | a :: s, t, h, hm => by
    have h2 := List.pairwise_cons.1 h
    by_cases ha : otm a = t
    · have ih := split_gr (s := s) (t := t) h2.2 (fun o ho => hm o (List.mem_cons_of_mem _ ho))
      rw [gr_cons, if_pos ha, List.filter_cons, if_neg (by simp [ha]), List.cons_append, ← ih]
    · have hgt : ∀ o ∈ a :: s, otm o ≠ t := fun o ho => by
        have h3 := hm a (List.mem_cons_self ..)
        rcases List.mem_cons.1 ho with e | e
        · rw [e]; exact ha
        · have := tm_le (h2.1 o e); omega
      have e1 : gr t (a :: s) = [] := gr_nil.2 (fun ⟨o, ho, he⟩ => hgt o ho he)
      rw [e1, List.nil_append, List.filter_eq_self.2 (fun o ho => by simp [hgt o ho])]
theorem cat_gr : ∀ (ts : List Int) (s : List Out), OStr s → ts.Pairwise (· < ·) → (∀ o ∈ s, otm o ∈ ts) → ts.flatMap (fun t => gr t s) = s
  | [], s, _, _, h => by
    cases s with
    | nil => rfl
    | cons o s => have := h o (List.mem_cons_self ..); cases this
  | t :: ts, s, hs, hp, h => by
    have hp2 := List.pairwise_cons.1 hp
    have hm : ∀ o ∈ s, t ≤ otm o := fun o ho => by
      rcases List.mem_cons.1 (h o ho) with e | e
      · omega
      · have := hp2.1 _ e; omega
    have hsp := split_gr hs hm
    obtain ⟨r, hr⟩ : ∃ r, r = s.filter (fun o => !decide (otm o = t)) := ⟨_, rfl⟩
    rw [← hr] at hsp
    have hrs : OStr r := by rw [hr]; exact List.Pairwise.sublist List.filter_sublist hs
    have ih := cat_gr ts r hrs hp2.2 (fun o ho => by
      rw [hr, List.mem_filter] at ho
      rcases List.mem_cons.1 (h o ho.1) with e | e
      · simp [e] at ho
      · exact e)
    have hg : ∀ u ∈ ts, gr u s = gr u r := fun u hu => by
      have hne : t ≠ u := by have := hp2.1 u hu; omega
      rw [hr]
      unfold gr
      rw [List.filter_filter]
      refine List.filter_congr (fun o ho => ?_)
      by_cases e : otm o = u
      · have : otm o ≠ t := by omega
        simp [e]; omega
      · simp [e]
    rw [List.flatMap_cons]
    have e2 : ts.flatMap (fun u => gr u s) = ts.flatMap (fun u => gr u r) := by
      clear ih hp hp2 h
      induction ts with
      | nil => rfl
      | cons u ts ih => rw [List.flatMap_cons, List.flatMap_cons, hg u (List.mem_cons_self ..), ih (fun x hx => hg x (List.mem_cons_of_mem _ hx))]
    rw [e2, ih]
    exact hsp.symm
/-- the heap's items are the times -/
def HeapKeys (hs : List Item) (ks : List Int) (L : List Item) : Prop := HL hs L ∧ (L.map (·.1)).Nodup ∧ (∀ x ∈ L, x.2 = 0) ∧ ∀ t, t ∈ L.map (·.1) ↔ t ∈ ks
theorem HeapKeys.push {hs L : List Item} {ks : List Int} (h : HeapKeys hs ks L) {t : Int} (ht : t ∉ ks) : HeapKeys (pushes hs [(t, 0)]) (kset ks t) (insL (t, 0) L) := by
  obtain ⟨h1, h2, h3, h4⟩ := h
  have hp := insL_perm (t, 0) L
  refine ⟨h1.push (t, 0), ?_, fun x hx => ?_, fun u => ?_⟩
  · refine ((hp.map (·.1)).nodup_iff).2 ?_
    rw [List.map_cons]
    exact List.nodup_cons.2 ⟨fun hc => ht ((h4 t).1 hc), h2⟩
  · rcases List.mem_cons.1 (hp.mem_iff.1 hx) with e | e
    · rw [e]
    · exact h3 x e
  · rw [(hp.map (·.1)).mem_iff, List.map_cons, List.mem_cons, h4, kset_mem]
theorem HeapKeys.pop {hs L : List Item} {ks : List Int} (h : HeapKeys hs ks L) (hk : ks.Nodup) (hne : L ≠ []) : HeapKeys (popL hs) (ks.erase (at' L 0).1) L.tail := by
  obtain ⟨h1, h2, h3, h4⟩ := h
  cases L with
  | nil => exact absurd rfl hne
  | cons x L =>
    have h5 := List.nodup_cons.1 h2
    refine ⟨h1.pop, h5.2, fun y hy => h3 y (List.mem_cons_of_mem _ hy), fun u => ?_⟩
    show u ∈ L.map (·.1) ↔ u ∈ ks.erase x.1
    rw [hk.mem_erase_iff, ← h4 u, List.map_cons, List.mem_cons]
    constructor
    · intro hu; exact ⟨fun e => (show x.1 ∉ L.map (·.1) from h5.1) (e ▸ hu), .inr hu⟩
    · rintro ⟨a, b | b⟩
      · exact absurd b a
      · exact b
theorem le_fst {x y : Item} (h : le x y) : x.1 ≤ y.1 := by
  unfold le icmp at h
  unfold horL at h
  by_cases hc : x.1 ≤ y.1
  · exact hc
  · exfalso
    have h1 : Lib.compareInt x.1 y.1 = 1 := by
      unfold Lib.compareInt
      rw [if_neg (by omega), if_pos (by omega)]
    rw [h1] at h
    simp at h
theorem HeapKeys.strict {hs L : List Item} {ks : List Int} (h : HeapKeys hs ks L) : (L.map (·.1)).Pairwise (· < ·) := by
  obtain ⟨h1, h2, h3, h4⟩ := h
  rw [List.pairwise_map]
  rw [List.Nodup, List.pairwise_map] at h2
  refine (h1.srt.and h2).imp (fun {a b} hab => ?_)
  have := le_fst hab.1
  have := hab.2
  omega
/-- the first time -/
theorem HeapKeys.first {hs L : List Item} {ks : List Int} {s : List Out} (h : HeapKeys hs ks L) (hk : ∀ t, t ∈ ks ↔ ∃ o ∈ s, otm o = t) (hs' : OStr s) :
    (s = [] → isB hs = false) ∧ ∀ o s2, s = o :: s2 → isB hs = true ∧ at' hs 0 = (otm o, 0) ∧ L ≠ [] ∧ at' L 0 = (otm o, 0) := by
  have hst := h.strict
  obtain ⟨h1, h2, h3, h4⟩ := h
  constructor
  · rintro rfl
    rw [h1.isB]
    cases L with
    | nil => rfl
    | cons x L =>
      have := (hk x.1).1 ((h4 x.1).1 (by simp))
      obtain ⟨o, ho, -⟩ := this
      cases ho
  · rintro o s2 rfl
    have ho : otm o ∈ L.map (·.1) := (h4 _).2 ((hk _).2 ⟨o, List.mem_cons_self .., rfl⟩)
    cases L with
    | nil => cases ho
    | cons x L =>
      have hx0 := h3 x (List.mem_cons_self ..)
      have hx : x.1 = otm o := by
        obtain ⟨o2, ho2, he⟩ := (hk x.1).1 ((h4 x.1).1 (by simp))
        have h5 : otm o ≤ x.1 := by
          rcases List.mem_cons.1 ho2 with e | e
          · rw [← he, e]; exact Int.le_refl _
          · rw [← he]; exact tm_le ((List.pairwise_cons.1 hs').1 o2 e)
        rcases List.mem_cons.1 ho with e | e
        · exact e.symm
        · have h7 : x.1 < otm o := (List.pairwise_cons.1 hst).1 _ e
          omega
      have hxx : x = (otm o, 0) := by
        obtain ⟨a, b⟩ := x
        simp only at hx hx0
        rw [hx, hx0]
      exact ⟨by rw [h1.isB]; rfl, by rw [h1.head, hxx]; rfl, by simp, by rw [hxx]; rfl⟩
end Go.Proofs.Ythhmmjpgefinmaa
