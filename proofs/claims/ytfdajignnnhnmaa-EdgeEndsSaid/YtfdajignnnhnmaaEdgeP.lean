/- edges: what is put is parsed, what is parsed is what is put: the plain law -/
import Derived.Test.YtfdajignnnhnmaaEdgeJ
namespace Go.Proofs.Ytfdajignnnhnmaa
set_option linter.unusedVariables false
set_option linter.unusedSimpArgs false
open Go.RowKit Go.Shelf

theorem takeP_bad {n : Nat} {s : St} (h : (takeP n s).2.1 = false) : s.1 = false ∧ s.2 = (takeP n s).1 ++ (takeP n s).2.2 := by
  unfold takeP at h ⊢
  split at h
  · cases h
  · rename_i hc
    rw [if_neg hc]
    simp only [not_or, Nat.not_lt, Bool.not_eq_true] at hc
    exact ⟨hc.1, (List.take_append_drop n s.2).symm⟩
theorem takeP_app (a b : List UInt8) : takeP a.length (false, a ++ b) = (a, (false, b)) := by
  unfold takeP
  rw [if_neg (by simp)]
  simp
theorem wordP_bad {s : St} (h : (wordP s).2.1 = false) : s.1 = false ∧ s.2 = textB (wordP s).1 ++ (wordP s).2.2 := by
  have h1 : (takeP (headN (takeP 1 s).1) (takeP 1 s).2).2.1 = false := h
  obtain ⟨h2, h3⟩ := takeP_bad h1
  obtain ⟨h4, h5⟩ := takeP_bad h2
  refine ⟨h4, ?_⟩
  have hl := takeP_len 1 s
  have hl2 := takeP_len (headN (takeP 1 s).1) (takeP 1 s).2
  have e : (wordP s).2.2 = (takeP (headN (takeP 1 s).1) (takeP 1 s).2).2.2 := rfl
  have e2 : textB (wordP s).1 = (takeP 1 s).1 ++ (takeP (headN (takeP 1 s).1) (takeP 1 s).2).1 := by
    show UInt8.ofNat ((takeP (headN (takeP 1 s).1) (takeP 1 s).2).1.toArray).size :: _ = _
    rw [List.size_toArray, hl2]
    obtain ⟨c, hc⟩ : ∃ c, (takeP 1 s).1 = [c] := by
      match (takeP 1 s).1, hl with
      | [c], _ => exact ⟨c, rfl⟩
    rw [hc]
    simp [headN, wordP, hc]
  rw [e, e2, List.append_assoc, ← h3, ← h5]
theorem wordP_app (w : ByteArray) (hw : w.size ≤ 255) (r : List UInt8) : wordP (false, textB w ++ r) = (w, (false, r)) := by
  have h1 : takeP 1 (false, textB w ++ r) = ([UInt8.ofNat w.size], (false, w.data.toList ++ r)) := takeP_app [UInt8.ofNat w.size] (w.data.toList ++ r)
  have h2 : headN [UInt8.ofNat w.size] = w.data.toList.length := by
    simp only [headN, List.headD_cons, UInt8.toNat_ofNat', Array.length_toList]
    exact Nat.mod_eq_of_lt (by omega)
  unfold wordP
  rw [h1]
  simp only [h2, takeP_app]
theorem b8_toNat {x : Int} {c : UInt8} (h : x % 256 = (c.toNat : Int)) : b8 x = c := by
  unfold b8
  rw [h, Int.toNat_natCast, UInt8.ofNat_toNat]
theorem numB_fold : ∀ (l : List UInt8), l.length = 6 → numB (foldB l 0) = l
  | [a, b, c, d, e, f], _ => by
    have ha := a.toNat_lt
    have hb := b.toNat_lt
    have hc := c.toNat_lt
    have hd := d.toNat_lt
    have he := e.toNat_lt
    have hf := f.toNat_lt
    simp only [foldB, List.foldl_cons, List.foldl_nil, numB]
    congr 1
    · exact b8_toNat (by omega)
    congr 1
    · exact b8_toNat (by omega)
    congr 1
    · exact b8_toNat (by omega)
    congr 1
    · exact b8_toNat (by omega)
    congr 1
    · exact b8_toNat (by omega)
    congr 1
    · exact b8_toNat (by omega)
theorem fold_numB (n : Int) (h0 : 0 ≤ n) (h1 : n < 281474976710656) : foldB (numB n) 0 = n := by
  simp only [foldB, numB, List.foldl_cons, List.foldl_nil, b8_int]
  omega
theorem numP_bad {s : St} (h : (numP s).2.1 = false) : s.1 = false ∧ s.2 = numB (numP s).1 ++ (numP s).2.2 := by
  obtain ⟨h1, h2⟩ := takeP_bad (show (takeP 6 s).2.1 = false from h)
  refine ⟨h1, ?_⟩
  show s.2 = numB (foldB (takeP 6 s).1 0) ++ (takeP 6 s).2.2
  rw [numB_fold _ (takeP_len 6 s)]; exact h2
theorem numP_app (n : Int) (h0 : 0 ≤ n) (h1 : n < 281474976710656) (r : List UInt8) : numP (false, numB n ++ r) = (n, (false, r)) := by
  have e : takeP 6 (false, numB n ++ r) = (numB n, (false, r)) := takeP_app (numB n) r
  unfold numP
  rw [e, fold_numB n h0 h1]
theorem propP_bad {s : St} (h : (propP s).2.1 = false) : s.1 = false ∧ s.2 = propE (propP s).1 ++ (propP s).2.2 := by
  have key : (takeP 1 (wordP s).2).2.1 = false → s.1 = false ∧ s.2 = textB (wordP s).1 ++ ([b8 (headN (takeP 1 (wordP s).2).1)] ++ (takeP 1 (wordP s).2).2.2) := by
    intro h1
    obtain ⟨h2, h3⟩ := takeP_bad h1
    obtain ⟨h4, h5⟩ := wordP_bad h2
    refine ⟨h4, ?_⟩
    have hl := takeP_len 1 (wordP s).2
    obtain ⟨c, hc⟩ : ∃ c, (takeP 1 (wordP s).2).1 = [c] := by
      match (takeP 1 (wordP s).2).1, hl with
      | [c], _ => exact ⟨c, rfl⟩
    have hb : b8 (headN [c] : Int) = c := b8_toNat (by have := c.toNat_lt; simp only [headN, List.headD_cons]; omega)
    rw [hc] at h3 ⊢
    rw [hb, ← h3, ← h5]
  unfold propP at h ⊢
  split at h
  · rename_i hk
    rw [if_pos hk]
    obtain ⟨h1, h2⟩ := numP_bad h
    obtain ⟨h3, h4⟩ := key h1
    refine ⟨h3, h4.trans ?_⟩
    rw [h2]
    simp [propE, hk]
  · rename_i hk
    rw [if_neg hk]
    obtain ⟨h1, h2⟩ := wordP_bad h
    obtain ⟨h3, h4⟩ := key h1
    refine ⟨h3, h4.trans ?_⟩
    rw [h2]
    have hk2 : ¬ ((headN (takeP 1 (wordP s).2).1 : Int) = 1) := by omega
    simp [propE, hk2]
theorem propP_app (p : Prp) (h1 : p.1.size ≤ 255) (h2 : rightV p.2 = true) (r : List UInt8) : propP (false, propE p ++ r) = (p, (false, r)) := by
  obtain ⟨x, k, n, t⟩ := p
  simp only at h1
  obtain ⟨g1, g2, g3⟩ := right_size h2
  simp only at g1 g2 g3
  have e0 : wordP (false, propE (x, k, n, t) ++ r) = (x, (false, [b8 k] ++ ((if k = 1 then numB (n + 1099511627776) else textB t) ++ r))) := by
    unfold propE
    simp only [List.append_assoc]
    exact wordP_app x h1 _
  have e1 : takeP 1 (false, [b8 k] ++ ((if k = 1 then numB (n + 1099511627776) else textB t) ++ r)) = ([b8 k], (false, (if k = 1 then numB (n + 1099511627776) else textB t) ++ r)) := takeP_app [b8 k] _
  rcases g3 with rfl | rfl
  · have hh : headN [b8 1] = 1 := by decide
    obtain ⟨n1, n2⟩ := g2 rfl
    have ht : t.size = 0 := by simp only [rightV] at h2; simp at h2; rw [h2.1]; rfl
    have ht0 : t = ⟨#[]⟩ := by
      obtain ⟨⟨l⟩⟩ := t
      have : l = [] := List.eq_nil_of_length_eq_zero ht
      rw [this]
    unfold propP
    rw [e0, e1, if_pos hh]
    simp only [if_true]
    rw [numP_app _ (by omega) (by omega), ht0]
    simp
  · have hh : headN [b8 2] = 2 := by decide
    have hn : n = 0 := by simp only [rightV] at h2; simp at h2; exact h2.1.1
    unfold propP
    rw [e0, e1, if_neg (by rw [hh]; omega), hh]
    have hk : ¬ ((2 : Int) = 1) := by decide
    simp only [if_neg hk]
    rw [wordP_app _ (by omega), hn]
    rfl
theorem rdP_bad : ∀ (n : Nat) (ps : List Prp) (s : St), (rdP n (ps, s)).2.1 = false → ∃ qs, (rdP n (ps, s)).1 = ps ++ qs ∧ qs.length = n ∧ s.1 = false ∧ s.2 = (qs.map propE).flatten ++ (rdP n (ps, s)).2.2
  | 0, ps, s, h => ⟨[], by simp [rdP], rfl, h, by simp [rdP]⟩
  | n + 1, ps, s, h => by
    obtain ⟨qs, h1, h2, h3, h4⟩ := rdP_bad n (ps ++ [(propP s).1]) (propP s).2 h
    obtain ⟨h5, h6⟩ := propP_bad h3
    refine ⟨(propP s).1 :: qs, ?_, by simp [h2], h5, ?_⟩
    · rw [rdP, h1]; simp
    · rw [h6, h4, rdP]; simp
theorem rdP_app : ∀ (ps qs : List Prp) (r : List UInt8), (∀ p ∈ ps, p.1.size ≤ 255 ∧ rightV p.2 = true) → rdP ps.length (qs, (false, (ps.map propE).flatten ++ r)) = (qs ++ ps, (false, r))
  | [], qs, r, h => by simp [rdP]
  | p :: ps, qs, r, h => by
    have hp := h p (List.mem_cons_self ..)
    rw [List.length_cons, rdP]
    simp only [List.map_cons, List.flatten_cons, List.append_assoc]
    rw [propP_app p hp.1 hp.2]
    rw [rdP_app ps (qs ++ [p]) r (fun q hq => h q (List.mem_cons_of_mem _ hq))]
    simp
def putO (o : Out) : List UInt8 := putB o.1 o.2.1 o.2.2.1 o.2.2.2.1 o.2.2.2.2
def chkO (o : Out) : Int := checkP o.1 o.2.1 o.2.2.1 o.2.2.2.1 o.2.2.2.2
/-- bytes that are parsed are just what is put of what they are -/
theorem put_parse {l : List UInt8} (h : okP l = true) : putO (edgeP l).1 = l ∧ chkO (edgeP l).1 = 0 := by
  unfold okP doneP at h
  simp only [Bool.and_eq_true, Bool.not_eq_true', decide_eq_true_eq] at h
  obtain ⟨⟨h1, h2⟩, h3⟩ := h
  refine ⟨?_, h3⟩
  have h2 : (edgeP l).2.2 = [] := List.eq_nil_of_length_eq_zero h2
  unfold edgeP at h1 h2 ⊢
  simp only at h1 h2 ⊢
  obtain ⟨qs, g1, g2, g3, g4⟩ := rdP_bad _ _ _ h1
  rw [h2] at g4
  obtain ⟨k1, k2⟩ := takeP_bad g3
  obtain ⟨k3, k4⟩ := numP_bad k1
  obtain ⟨k5, k6⟩ := wordP_bad k3
  obtain ⟨k7, k8⟩ := wordP_bad k5
  obtain ⟨k9, k10⟩ := wordP_bad k7
  simp only at k10
  simp only [putO, putB, headE]
  rw [g1, List.nil_append, g2]
  have hc : [UInt8.ofNat (headN (takeP 1 (numP (wordP (wordP (wordP (false, l)).2).2).2).2).1)] = (takeP 1 (numP (wordP (wordP (wordP (false, l)).2).2).2).2).1 := by
    have hl := takeP_len 1 (numP (wordP (wordP (wordP (false, l)).2).2).2).2
    obtain ⟨c, hc⟩ : ∃ c, (takeP 1 (numP (wordP (wordP (wordP (false, l)).2).2).2).2).1 = [c] := by
      match (takeP 1 (numP (wordP (wordP (wordP (false, l)).2).2).2).2).1, hl with
      | [c], _ => exact ⟨c, rfl⟩
    rw [hc]; simp [headN]
  rw [hc]
  rw [List.append_nil] at g4
  rw [← g4]
  simp only [List.append_assoc]
  rw [← k2, ← k4, ← k6, ← k8, ← k10]
/-- what is put is parsed, the same -/
theorem parse_put {o : Out} (h : chkO o = 0) : okP (putO o) = true ∧ (edgeP (putO o)).1 = o := by
  obtain ⟨f, t, l, tm, ps⟩ := o
  obtain ⟨h1, h2, h3, h4, h5, h6⟩ := check_ok h
  simp only at h1 h2 h3 h4 h5 h6
  have z1 := vertex_size h1
  have z2 := vertex_size h2
  have z3 := free_size h3
  have hps : ∀ p ∈ ps, p.1.size ≤ 255 ∧ rightV p.2 = true := fun p hp => ⟨by have := free_size (ris_mem h4 p hp).1; omega, (ris_mem h4 p hp).2⟩
  have ht : 0 ≤ tm ∧ tm ≤ 1099511627776 := by simpa [timeB] using h6
  have hput : putO (f, t, l, tm, ps) = textB f ++ (textB t ++ (textB l ++ (numB tm ++ ([UInt8.ofNat ps.length] ++ ((ps.map propE).flatten ++ []))))) := by
    simp [putO, putB, headE]
  have hh : headN [UInt8.ofNat ps.length] = ps.length := by
    simp only [headN, List.headD_cons, UInt8.toNat_ofNat']
    exact Nat.mod_eq_of_lt (by omega)
  have hE : edgeP (putO (f, t, l, tm, ps)) = ((f, t, l, tm, ps), (false, [])) := by
    rw [hput]
    unfold edgeP
    simp only [wordP_app f (by omega), wordP_app t (by omega), wordP_app l (by omega), numP_app tm ht.1 (by omega)]
    have e1 := takeP_app [UInt8.ofNat ps.length] ((ps.map propE).flatten ++ [])
    simp only [List.length_singleton] at e1
    simp only [e1, hh, rdP_app ps [] [] hps, List.nil_append]
  refine ⟨?_, by rw [hE]⟩
  unfold okP
  rw [hE]
  simp only [doneP, List.length_nil, Bool.not_false, Bool.and_eq_true, decide_eq_true_eq]
  first | exact h | exact ⟨trivial, h⟩ | exact ⟨⟨rfl, trivial⟩, h⟩ | exact ⟨⟨trivial, trivial⟩, h⟩
theorem put_inj {a b : Out} (ha : chkO a = 0) (hb : chkO b = 0) (h : putO a = putO b) : a = b := by
  rw [← (parse_put ha).2, h, (parse_put hb).2]
end Go.Proofs.Ytfdajignnnhnmaa
