/- the document's book -/
import Derived.Test.YtamhlflacnldfaaNameD
namespace Go.Proofs.Ytamhlflacnldfaa
set_option linter.unusedVariables false
set_option linter.unusedSimpArgs false
open Go.RowKit Go.Shelf Go.Maps

/-! ### plain facts -/
theorem if_same {a b : Bool} (h : a = b) (x y : List ByteArray) : (if a = true then x else y) = (if b = true then x else y) := by subst h; rfl
theorem num_at {L : List ByteArray} {s : ByteArray} {k : Nat} (hk : L[k]? = some s) (hn : ∀ j, j < k → L[j]? ≠ some s) : num L s = k := by
  have h := sidx_at hk hn
  have hm : inL s L = true := inL_iff.2 (List.mem_of_getElem? hk)
  rw [sidx, if_pos hm] at h
  rw [num, if_pos hm, h]
theorem inL_no {L : List ByteArray} {s : ByteArray} (hn : ∀ j, j < L.length → L[j]? ≠ some s) : inL s L = false := by
  cases h : inL s L
  · rfl
  · obtain ⟨j, hj, e⟩ := List.mem_iff_getElem.1 (inL_iff.1 h)
    exact absurd (by rw [List.getElem?_eq_getElem hj, e]) (hn j hj)
theorem num_no {L : List ByteArray} {s : ByteArray} (h : inL s L = false) : num L s = 0 := by simp [num, h]
theorem fr_snoc (L : List ByteArray) : ∀ (pre ss : List ByteArray) (s : ByteArray), fr L pre (ss ++ [s]) = fr L pre ss ++ (if (inL s L || inL s pre || inL s (fr L pre ss)) = true then [] else [s])
  | pre, [], s => by
    show (if (inL s L || inL s pre) = true then fr L pre [] else s :: fr L (pre ++ [s]) []) = [] ++ (if (inL s L || inL s pre || inL s []) = true then [] else [s])
    rw [List.nil_append]
    refine if_same ?_ _ _
    simp [inL]
  | pre, x :: ss, s => by
    show fr L pre (x :: (ss ++ [s])) = _
    rw [fr]
    by_cases h : (inL x L || inL x pre) = true
    · rw [if_pos h, fr_snoc L pre ss s]
      have e : fr L pre (x :: ss) = fr L pre ss := by rw [fr, if_pos h]
      rw [e]
    · rw [if_neg h, fr_snoc L (pre ++ [x]) ss s]
      have e : fr L pre (x :: ss) = x :: fr L (pre ++ [x]) ss := by rw [fr, if_neg h]
      rw [e, List.cons_append]
      congr 2
      have e2 : inL s (x :: fr L (pre ++ [x]) ss) = (decide (x = s) || inL s (fr L (pre ++ [x]) ss)) := by simp [inL]
      rw [inL_append, e2]
      simp only [Bool.or_assoc]
theorem fresh_snoc (L ss : List ByteArray) (s : ByteArray) : fresh L (ss ++ [s]) = fresh L ss ++ (if inL s (L ++ fresh L ss) = true then [] else [s]) := by
  unfold fresh
  rw [fr_snoc]
  congr 1
  refine if_same ?_ _ _
  simp [inL]
theorem fr_len (L : List ByteArray) : ∀ (pre ss : List ByteArray), (fr L pre ss).length ≤ ss.length
  | pre, [] => by simp [fr]
  | pre, x :: ss => by
    rw [fr]
    split
    · have := fr_len L pre ss; simp; omega
    · have := fr_len L (pre ++ [x]) ss; simp; omega
theorem fresh_len (L ss : List ByteArray) : (fresh L ss).length ≤ ss.length := fr_len L [] ss
/-- numbers stay -/
theorem num_more {L M : List ByteArray} {s : ByteArray} (h : inL s L = true) : num (L ++ M) s = num L s := by
  have e : inL s (L ++ M) = true := by simp [inL] at h ⊢; exact .inl h
  rw [num, num, if_pos h, if_pos e, List.findIdx_append, if_pos]
  obtain ⟨j, hj, e⟩ := List.mem_iff_getElem.1 (inL_iff.1 h)
  exact List.findIdx_lt_length_of_exists ⟨s, by rw [← e]; exact List.getElem_mem _, by simp⟩
theorem fresh_all {L ss : List ByteArray} {s : ByteArray} (h : s ∈ ss) : inL s (L ++ fresh L ss) = true := by
  obtain ⟨a, b, rfl⟩ := List.append_of_mem h
  have key : ∀ (c : List ByteArray) (ts : List ByteArray), inL s (L ++ fresh L c) = true → inL s (L ++ fresh L (c ++ ts)) = true := by
    intro c ts
    induction ts generalizing c with
    | nil => simp
    | cons t ts ih =>
      intro hc
      have : inL s (L ++ fresh L (c ++ [t])) = true := by
        rw [fresh_snoc, ← List.append_assoc]
        simp only [inL, List.any_append, Bool.or_eq_true] at hc ⊢
        exact .inl hc
      have := ih (c ++ [t]) this
      rwa [List.append_assoc] at this
  have h1 : inL s (L ++ fresh L (a ++ [s])) = true := by
    rw [fresh_snoc]
    by_cases hc : inL s (L ++ fresh L a) = true
    · rw [if_pos hc, List.append_nil]; exact hc
    · rw [if_neg hc]; simp [inL]
  have := key (a ++ [s]) b h1
  rwa [List.append_assoc] at this
/-- the numbers, one more -/
def nums (L ss : List ByteArray) : List Int := ss.map (num (L ++ fresh L ss))
theorem nums_snoc (L ss : List ByteArray) (s : ByteArray) : nums L (ss ++ [s]) = nums L ss ++ [num (L ++ fresh L (ss ++ [s])) s] := by
  unfold nums
  rw [List.map_append]
  congr 1
  refine List.map_congr_left (fun x hx => ?_)
  rw [fresh_snoc, ← List.append_assoc]
  exact num_more (fresh_all hx)

/-! ### the walks -/
/-- the document's book at block R -/
def RBk (S : Nat → Prop) (W : World) (R : Nat) (L : List ByteArray) : Prop :=
  ∃ v, W.heap[R]? = some (.cells #[v] 44 (0, 0)) ∧ W.ownsRow 0 9 1 v L.length (strs L) ∧ S R ∧ (∀ g, v.ownBlock = some g → S g ∧ g ≠ R) ∧ (∀ k, S k → k < W.heap.size)
theorem RBk.fr {S T : Nat → Prop} {W W' : World} {R : Nat} {L : List ByteArray} (h : RBk S W R L) (hf : Fr T W W') (hd : ∀ k, S k → ¬ T k) : RBk S W' R L := by
  obtain ⟨v, h1, h2, h3, h4, h5⟩ := h
  exact ⟨v, (hf.block R (h5 R h3) (hd R h3)).trans h1, hf.ownsRow h2 (fun g hg => hd g (h4 g hg).1), h3, h4, fun k hk => Nat.lt_of_lt_of_le (h5 k hk) hf.size⟩
theorem RBk.g {S : Nat → Prop} {W W' : World} {R : Nat} {L : List ByteArray} (h : RBk S W R L) (hg : G W W') : RBk S W' R L := h.fr (hg.fr (fun _ => False)) (fun _ _ x => x)
theorem RBk.ltS {S : Nat → Prop} {W : World} {R : Nat} {L : List ByteArray} (h : RBk S W R L) {k : Nat} (hk : S k) : k < W.heap.size := by
  obtain ⟨v, h1, h2, h3, h4, h5⟩ := h
  exact h5 k hk
theorem rnew_any (w : World) : Calls Try.prog 13 #[] w fun e w' => ∃ R, e = .returned (.pointer (some ⟨R, 0, none⟩)) ∧ RBk (fun k => w.heap.size ≤ k ∧ k < w'.heap.size) w' R [] ∧ G w w' := by
  go_enter Try.func13, Try.ntmps13
  go_wp2
  go_ret
  refine ⟨w.heap.size, rfl, ⟨.slice none 0 0, alloc_new w _, World.ownsRow_nil _ _ _ _, by simp, by simp [Value.ownBlock], fun k hk => hk.2⟩, (G.refl w).alloc _⟩
theorem rfind_any (S : Nat → Prop) (R : Nat) (L : List ByteArray) (s : ByteArray) (w : World) (hb : RBk S w R L) (hL : L.length ≤ 1000000) :
    Calls Try.prog 18 #[.pointer (some ⟨R, 0, none⟩), .string s] w fun e w' => e = .returned (.tuple #[.int .i64 (num L s), .bool (inL s L)]) ∧ w = w' := by
  obtain ⟨v, h1, h2, -⟩ := hb
  have c0 : w.cell? ⟨R, 0, none⟩ = some v := by simp [World.cell?, h1]
  obtain ⟨p, c, rfl, hl, hc⟩ := (rdr_of_owns h2).at
  obtain ⟨n, hnn⟩ : ∃ n, n = L.length := ⟨_, rfl⟩
  rw [← hnn] at c0 hc hL
  have HN := Lib.hid hnn
  have HC := Lib.hid hc
  clear hnn h1 h2 hc hl
  go_enter Try.func18, Try.ntmps18
  go_wp2_with fail
  go_loop [6] (fun i => ∃ k : Nat, k ≤ n ∧ i = .int .i64 k ∧ Hid (∀ j, j < k → L[j]? ≠ some s)) (fun i => n - (intOf i).toNat)
  case atStart => exact ⟨0, by omega, rfl, (fun j hj => by omega : ∀ j, j < 0 → L[j]? ≠ some s)⟩
  case round =>
    obtain ⟨k, hk, rfl, HA⟩ := hrel
    by_cases hlt : k < n
    · obtain ⟨b, o, rfl, hcell⟩ := HC.out (by omega)
      obtain ⟨x, hx⟩ : ∃ x, L[k]? = some x := ⟨L[k]'(by have := HN.out; omega), List.getElem?_eq_getElem _⟩
      have c1 := hcell k _ (strs_get hx)
      have HX := Lib.hid hx
      clear hcell hx
      by_cases he : x = s
      · have HV := Lib.hid (num_at (by rw [HX.out, he]) HA.out)
        have HI := Lib.hid (inL_iff.2 (List.mem_of_getElem? (by rw [HX.out, he])) : inL s L = true)
        have hee := str_eq he
        go_wp2_with fail
        go_ret2
        exact ⟨by rw [HV.out, HI.out]; rfl, rfl⟩
      · have hne := str_ne he
        go_wp2_with fail
        go_round
        case rel =>
          refine ⟨k + 1, by omega, by go_num, fun j hj => ?_⟩
          by_cases e : j = k
          · subst e; rw [HX.out]; simpa using he
          · exact HA.out j (by omega)
        case measure => simp [intOf]; omega
    · have HI := Lib.hid (inL_no (fun j hj => HA.out j (by have := HN.out; omega)))
      have HV := Lib.hid (num_no HI.out)
      go_wp2_with fail
      go_ret2
      exact ⟨by rw [HV.out, HI.out]; rfl, rfl⟩
theorem rtext_any (S : Nat → Prop) (R : Nat) (L : List ByteArray) (n : Int) (w : World) (hb : RBk S w R L) :
    Calls Try.prog 20 #[.pointer (some ⟨R, 0, none⟩), .int .i64 n] w fun e w' => e = .returned (textV L n) ∧ w = w' := by
  obtain ⟨v, h1, h2, -⟩ := hb
  have c0 : w.cell? ⟨R, 0, none⟩ = some v := by simp [World.cell?, h1]
  obtain ⟨p, c, rfl, hl, hc⟩ := (rdr_of_owns h2).at
  obtain ⟨m, hm⟩ : ∃ m, m = L.length := ⟨_, rfl⟩
  rw [← hm] at c0 hc
  have HM := Lib.hid hm
  clear h1 h2 hl hm
  by_cases h0 : 0 ≤ n
  · by_cases h1 : n < m
    · obtain ⟨k, rfl⟩ : ∃ k : Nat, n = k := ⟨n.toNat, by omega⟩
      obtain ⟨b, o, rfl, hcell⟩ := hc (by omega)
      obtain ⟨x, hx⟩ : ∃ x, L[k]? = some x := ⟨L[k]'(by have := HM.out; omega), List.getElem?_eq_getElem _⟩
      have c2 := hcell k _ (strs_get hx)
      have HV := Lib.hid (show textV L k = .tuple #[.string x, .bool true] by rw [textV, if_pos ⟨by omega, by have := HM.out; omega⟩]; simp [hx])
      clear hcell hx hc
      go_enter Try.func20, Try.ntmps20
      go_wp2
      go_ret2
      exact ⟨by rw [HV.out]; rfl, rfl⟩
    · have HV := Lib.hid (show textV L n = .tuple #[.string ⟨#[]⟩, .bool false] by rw [textV, if_neg (by have := HM.out; omega)])
      clear hc
      go_enter Try.func20, Try.ntmps20
      go_wp2
      go_ret2
      exact ⟨by rw [HV.out]; rfl, rfl⟩
  · have HV := Lib.hid (show textV L n = .tuple #[.string ⟨#[]⟩, .bool false] by rw [textV, if_neg (by omega)])
    clear hc
    go_enter Try.func20, Try.ntmps20
    go_wp2
    go_ret2
    exact ⟨by rw [HV.out]; rfl, rfl⟩
end Go.Proofs.Ytamhlflacnldfaa
