/- laid together: NameA -/
import Derived.Test.YthhmmjpgefinmaaGA
import Derived.BigQuiet
/- names: what a text's signs are -/
namespace Go.Proofs.Ythhmmjpgefinmaa
set_option linter.unusedVariables false
open Go.RowKit Go.Shelf

def signB (c : UInt8) : Bool := (97 ≤ c.toNat && c.toNat ≤ 122) || (48 ≤ c.toNat && c.toNat ≤ 57) || c.toNat == 95
def letB (c : UInt8) : Bool := 97 ≤ c.toNat && c.toNat ≤ 122
def vertexB (s : ByteArray) : Bool := decide (1 ≤ s.size) && decide (s.size ≤ 20) && s.data.toList.all signB
def ltr (r : Int) : Bool := decide (97 ≤ r ∧ r ≤ 122)

theorem letter_any (r : Int) (w : World) : Calls Try.prog 71 #[.int .i32 r] w fun e w' => e = .returned (.bool (ltr r)) ∧ w = w' := by
  by_cases h1 : 97 ≤ r
  · by_cases h2 : r ≤ 122
    · have HV := Lib.hid (show ltr r = true by simp [ltr, h1, h2])
      go_enter Try.func71, Try.ntmps71
      go_wp2
      go_ret
      exact ⟨by rw [HV.out]; rfl, rfl⟩
    · have HV := Lib.hid (show ltr r = false by simp [ltr, h2])
      go_enter Try.func71, Try.ntmps71
      go_wp2
      go_ret
      exact ⟨by rw [HV.out]; rfl, rfl⟩
  · have HV := Lib.hid (show ltr r = false by simp [ltr, h1])
    go_enter Try.func71, Try.ntmps71
    go_wp2
    go_ret
    exact ⟨by rw [HV.out]; rfl, rfl⟩

theorem letter_is (r : Int) (b : Bool) (w : World) (h : ltr r = b) : Calls Try.prog 71 #[.int .i32 r] w fun e w' => e = .returned (.bool b) ∧ w = w' := by rw [← h]; exact letter_any r w
theorem str_nonempty (s : ByteArray) (h : ¬ s.size = 0) : s.toList.isEmpty = false := by
  rw [ByteArray.toList_eq]; cases hl : s.data.toList with
  | nil => exact absurd (show s.size = 0 by rw [← ByteArray.size_data, ← Array.length_toList, hl]; rfl) h
  | cons a l => rfl
/-- what the first signs say -/
theorem all_take_succ (s : ByteArray) (k : Nat) (h : k < s.size) : (s.data.toList.take (k + 1)).all signB = ((s.data.toList.take k).all signB && signB (s[k]'h)) := by
  rw [List.take_succ_eq_append_getElem (by simpa using h), List.all_append]; simp; rfl
theorem all_false_of (s : ByteArray) (k : Nat) (h : k < s.size) (hc : signB (s[k]'h) = false) : vertexB s = false := by
  have : s.data.toList.all signB = false := by
    rw [List.all_eq_false]; exact ⟨s[k]'h, by have : s[k]'h = s.data.toList[k]'(by simpa using h) := rfl
                                              rw [this]; exact List.getElem_mem _, by simp [hc]⟩
  simp [vertexB, this]

theorem vertex_any (s : ByteArray) (w : World) (hs : s.size ≤ maxLen) : Calls Try.prog 57 #[.string s] w fun e w' => e = .returned (.bool (vertexB s)) ∧ G w w' := by
  unfold maxLen at hs
  go_enter Try.func57, Try.ntmps57
  go_wp2
  go_loopw [2] (fun _ w' => ∃ pos, w' = w.iter s pos ∧ Hid ((s.data.toList.take pos).all signB = true)) (fun _ w' => s.size - w'.iterPos w.heap.size)
  case atStart => exact ⟨0, rfl, (rfl : (s.data.toList.take 0).all signB = true)⟩
  case round =>
    obtain ⟨pos, rfl, HA⟩ := hrel
    by_cases hp : pos < s.size
    · by_cases hsn : signB (s[pos]'hp) = true
      · have hasc : (s[pos]'hp).toNat < 128 := by
          simp only [signB, Bool.or_eq_true, Bool.and_eq_true, decide_eq_true_eq, beq_iff_eq] at hsn; omega
        have hnx : ∀ ty, (Instr.next (.pointer (some ⟨w.heap.size, 0, none⟩)) true ty).run Try.prog (w.iter s pos) = _ := fun ty => run_next_ascii w s pos ty hp hasc
        have HS := Lib.hid (all_take_succ s pos hp)
        have HN := Lib.hid hsn
        have hrr : (ltr ((s[pos]'hp).toNat : Int) = true) ∨ (ltr ((s[pos]'hp).toNat : Int) = false ∧ ((((s[pos]'hp).toNat : Int)) != 95) = false) ∨ (ltr ((s[pos]'hp).toNat : Int) = false ∧ ((((s[pos]'hp).toNat : Int)) != 95) = true ∧ 48 ≤ ((s[pos]'hp).toNat : Int) ∧ ((s[pos]'hp).toNat : Int) ≤ 57) := by
          simp only [signB, Bool.or_eq_true, Bool.and_eq_true, decide_eq_true_eq, beq_iff_eq] at hsn
          simp only [ltr, decide_eq_true_eq, decide_eq_false_iff_not, bne_eq_false_iff_eq, bne_iff_ne, ne_eq]
          omega
        clear hsn hasc
        generalize hr : ((s[pos]'hp).toNat : Int) = r at hrr hnx
        clear hr
        rcases hrr with hl | ⟨hl, h95⟩ | ⟨hl, h95, h48, h57⟩
        all_goals
          have HL := Lib.hid hl
          clear hl
          go_wp2_with (go_at_call 71; refine (letter_is _ _ _ HL.out).mono ?_; rintro e w' ⟨rfl, rfl⟩)
          go_roundw
          case rel => exact ⟨pos + 1, rfl, by show (s.data.toList.take (pos + 1)).all signB = true; rw [HS.out, HA.out, HN.out]; rfl⟩
          case measure => simp; omega
      · simp only [Bool.not_eq_true] at hsn
        have HV := Lib.hid (all_false_of s pos hp hsn)
        have hnx : ∀ ty, (Instr.next (.pointer (some ⟨w.heap.size, 0, none⟩)) true ty).run Try.prog (w.iter s pos) = _ := fun ty => run_next_any w s pos ty hp
        have hrr : ltr ((Utf8.decode s pos).1 : Int) = false ∧ ((((Utf8.decode s pos).1 : Int)) != 95) = true ∧ (((Utf8.decode s pos).1 : Int) < 48 ∨ 57 < ((Utf8.decode s pos).1 : Int)) := by
          by_cases hasc : (s[pos]'hp).toNat < 128
          · rw [decode_ascii s pos hp hasc]
            simp only [signB, Bool.or_eq_false_iff, Bool.and_eq_false_iff, decide_eq_false_iff_not, beq_eq_false_iff_ne, ne_eq] at hsn
            simp only [ltr, decide_eq_false_iff_not, bne_iff_ne, ne_eq]
            omega
          · have := (decode_high s pos hp (by omega)).1
            simp only [ltr, decide_eq_false_iff_not, bne_iff_ne, ne_eq]
            omega
        clear hsn
        generalize hr : ((Utf8.decode s pos).1 : Int) = r at hrr hnx
        clear hr
        obtain ⟨hl, h95, h48⟩ := hrr
        have HL := Lib.hid hl
        clear hl
        rcases h48 with h48 | h48
        · go_wp2_with (go_at_call 71; refine (letter_is _ _ _ HL.out).mono ?_; rintro e w' ⟨rfl, rfl⟩)
          go_ret
          exact ⟨by rw [HV.out]; rfl, (G.refl w).alloc _⟩
        · have h48' : ¬ r < 48 := by omega
          go_wp2_with (go_at_call 71; refine (letter_is _ _ _ HL.out).mono ?_; rintro e w' ⟨rfl, rfl⟩)
          go_ret
          exact ⟨by rw [HV.out]; rfl, (G.refl w).alloc _⟩
    · have hnx : ∀ ty, (Instr.next (.pointer (some ⟨w.heap.size, 0, none⟩)) true ty).run Try.prog (w.iter s pos) = _ := fun ty => run_next_end w s pos ty hp
      have hall : s.data.toList.all signB = true := by
        have := HA.out; rwa [List.take_of_length_le (by simp; omega)] at this
      by_cases h0 : s.size = 0
      · have hem : s.data.toList = [] := List.eq_nil_of_length_eq_zero (by exact h0)
        have HV := Lib.hid (show vertexB s = false by simp [vertexB, h0])
        have hem2 : s.toList.isEmpty = true := by rw [ByteArray.toList_eq, hem]; rfl
        go_wp2
        go_ret
        exact ⟨by rw [HV.out]; rfl, (G.refl w).alloc _⟩
      · have hem : s.toList.isEmpty = false := str_nonempty s h0
        have h1 : 1 ≤ s.size := by omega
        by_cases h20 : s.size ≤ 20
        · have HV := Lib.hid (show vertexB s = true by simp [vertexB, h1, h20, hall])
          go_wp2
          go_ret
          exact ⟨by simp [HV.out]; omega, (G.refl w).alloc _⟩
        · have HV := Lib.hid (show vertexB s = false by simp [vertexB, h20])
          go_wp2
          go_ret
          exact ⟨by simp [HV.out]; omega, (G.refl w).alloc _⟩

/-! the document's -/
/-! a text among texts -/
def inL (s : ByteArray) (ss : List ByteArray) : Bool := ss.any (fun x => decide (x = s))
theorem inL_iff {s : ByteArray} {ss : List ByteArray} : inL s ss = true ↔ s ∈ ss := by simp [inL]
theorem str_beq (s x : ByteArray) : (s.toList == x.toList) = decide (s = x) := by
  rw [Bool.eq_iff_iff]
  simp only [beq_iff_eq, decide_eq_true_eq, ByteArray.toList_eq]
  exact ⟨fun h => by cases s; cases x; congr 1; exact Array.ext' h, fun h => by rw [h]⟩
theorem str_ne {s x : ByteArray} (h : s ≠ x) : (s.toList == x.toList) = false := by rw [str_beq]; simpa using h
theorem str_eq {s x : ByteArray} (h : s = x) : (s.toList == x.toList) = true := by rw [str_beq]; simpa using h
def strs (ss : List ByteArray) : List Value := ss.map Value.string
def sidx (ss : List ByteArray) (s : ByteArray) : Int := if inL s ss = true then (ss.findIdx (fun x => decide (x = s)) : Nat) else -1
theorem sidx_at {ss : List ByteArray} {s : ByteArray} {k : Nat} (hk : ss[k]? = some s) (hn : ∀ j, j < k → ss[j]? ≠ some s) : sidx ss s = k := by
  obtain ⟨hlt, he⟩ := List.getElem?_eq_some_iff.1 hk
  have hm : s ∈ ss := by rw [← he]; exact List.getElem_mem _
  rw [sidx, if_pos (inL_iff.2 hm)]
  congr 1
  refine (List.findIdx_eq hlt).2 ⟨by simp [he], fun j hj => ?_⟩
  have := hn j hj
  rw [List.getElem?_eq_getElem (by omega)] at this
  simp at this
  simp [this]
theorem sidx_no {ss : List ByteArray} {s : ByteArray} (hn : ∀ j, j < ss.length → ss[j]? ≠ some s) : sidx ss s = -1 := by
  rw [sidx, if_neg]
  intro h
  obtain ⟨j, hj, e⟩ := List.mem_iff_getElem.1 (inL_iff.1 h)
  exact hn j hj (by rw [List.getElem?_eq_getElem hj, e])
theorem strs_get {ss : List ByteArray} {k : Nat} {s : ByteArray} (h : ss[k]? = some s) : (strs ss)[k]? = some (.string s) := by simp [strs, h]
theorem strs_len (ss : List ByteArray) : (strs ss).length = ss.length := by simp [strs]

theorem index_any (ss : List ByteArray) (s : ByteArray) (v : Value) (w : World) (hv : Rdr w 1 v ss.length (strs ss)) (hn : ss.length ≤ maxLen) :
    Calls Try.prog 86 #[v, .string s] w fun e w' => e = .returned (.int .i64 (sidx ss s)) ∧ w = w' := by
  unfold maxLen at hn
  obtain ⟨p, c, rfl, hl, hc⟩ := hv.at
  obtain ⟨n, hnn⟩ : ∃ n, n = ss.length := ⟨_, rfl⟩
  rw [← hnn] at hn hl hc hv ⊢
  have HN := Lib.hid hnn
  clear hnn hl hv
  go_enter Try.func86, Try.ntmps86
  go_wp2
  go_loop [8] (fun i => ∃ k : Nat, k ≤ n ∧ i = .int .i64 k ∧ Hid (∀ j, j < k → ss[j]? ≠ some s)) (fun i => n - (intOf i).toNat)
  case atStart => exact ⟨0, by omega, rfl, (fun j hj => by omega : ∀ j, j < 0 → ss[j]? ≠ some s)⟩
  case round =>
    obtain ⟨k, hk, rfl, HA⟩ := hrel
    by_cases hp : k < n
    · obtain ⟨b, o, rfl, hcell⟩ := hc (by omega)
      obtain ⟨x, hx⟩ : ∃ x, ss[k]? = some x := ⟨ss[k]'(by have := HN.out; omega), List.getElem?_eq_getElem _⟩
      have c0 := hcell k _ (strs_get hx)
      have HX := Lib.hid hx
      clear hcell hx
      by_cases he : s = x
      · have HV := Lib.hid (sidx_at (by rw [HX.out, he]) HA.out)
        subst he
        go_wp2
        go_ret
        exact ⟨by rw [HV.out]; rfl, rfl⟩
      · have hne := str_ne he
        go_wp2
        go_round
        case rel =>
          refine ⟨k + 1, by omega, by go_num, fun j hj => ?_⟩
          by_cases e : j = k
          · subst e; rw [HX.out]; simpa using fun h => he h.symm
          · exact HA.out j (by omega)
        case measure => simp [intOf]; omega
    · have HV := Lib.hid (sidx_no (fun j hj => HA.out j (by have := HN.out; omega)))
      go_wp2
      go_ret
      exact ⟨by rw [HV.out]; rfl, rfl⟩
theorem sidx_nonneg (ss : List ByteArray) (s : ByteArray) : decide (0 ≤ sidx ss s) = inL s ss := by
  unfold sidx
  cases h : inL s ss <;> simp
theorem contains_any (ss : List ByteArray) (s : ByteArray) (v : Value) (w : World) (hv : Rdr w 1 v ss.length (strs ss)) (hn : ss.length ≤ maxLen) :
    Calls Try.prog 72 #[v, .string s] w fun e w' => e = .returned (.bool (inL s ss)) ∧ w = w' := by
  have HI := Lib.hid (sidx_nonneg ss s)
  obtain ⟨p, c, hvv, _⟩ := hv.at
  subst hvv
  have HV := Lib.hid hv
  clear hv
  go_enter Try.func72, Try.ntmps72
  go_wp2_with (go_at_call 86; refine (index_any ss s _ _ HV.out hn).mono ?_; rintro e w' ⟨rfl, rfl⟩)
  go_ret
  exact ⟨by rw [← HI.out]; rfl, rfl⟩
def bytesS (l : List UInt8) : ByteArray := ⟨l.toArray⟩
def words : List ByteArray := [⟨#[97, 115]⟩, ⟨#[109, 97, 116, 99, 104]⟩, ⟨#[119, 104, 101, 114, 101]⟩, ⟨#[97, 110, 100]⟩, ⟨#[114, 101, 116, 117, 114, 110]⟩, ⟨#[114, 97, 110, 103, 101]⟩, ⟨#[115, 108, 105, 100, 101]⟩]
def headB (s : ByteArray) : Bool := match s.data.toList with | c :: _ => letB c | [] => false
def freeB (s : ByteArray) : Bool := vertexB s && headB s && !inL s words
theorem headB_at (s : ByteArray) (h : 0 < s.size) : headB s = letB (s[0]'h) := by
  have e : s.data.toList[0]? = some (s[0]'h) := List.getElem?_eq_getElem (by simpa using h)
  unfold headB
  cases hl : s.data.toList with
  | nil => rw [hl] at e; simp at e
  | cons a l => rw [hl] at e; simp at e; rw [e]
theorem ltr_u8 (c : UInt8) : ltr (c.toNat : Int) = letB c := by rw [Bool.eq_iff_iff]; simp [ltr, letB]; omega
theorem wrap32_u8 (c : UInt8) : wrap32 (c.toNat : Int) = c.toNat := by
  have := c.toNat_lt
  unfold wrap32; omega
theorem vertex_is (s : ByteArray) (b : Bool) (w : World) (hs : s.size ≤ maxLen) (h : vertexB s = b) : Calls Try.prog 57 #[.string s] w fun e w' => e = .returned (.bool b) ∧ G w w' := by rw [← h]; exact vertex_any s w hs
theorem contains_is (ss : List ByteArray) (s : ByteArray) (b : Bool) (v : Value) (w : World) (hv : Rdr w 1 v ss.length (strs ss)) (hn : ss.length ≤ maxLen) (h : inL s ss = b) :
    Calls Try.prog 72 #[v, .string s] w fun e w' => e = .returned (.bool b) ∧ w = w' := by rw [← h]; exact contains_any ss s v w hv hn
theorem free_any (s : ByteArray) (w : World) (hs : s.size ≤ maxLen) : Calls Try.prog 58 #[.string s] w fun e w' => e = .returned (.bool (freeB s)) ∧ G w w' := by
  have hs' := hs
  unfold maxLen at hs'
  cases hv : vertexB s
  · have HV := Lib.hid (show freeB s = false by simp [freeB, hv])
    have HX := Lib.hid hv
    clear hv
    go_enter Try.func58, Try.ntmps58
    go_wp2_with (go_at_call 57; refine (vertex_is _ _ _ hs HX.out).mono ?_; rintro e w' ⟨rfl, hg⟩)
    go_ret
    exact ⟨by rw [HV.out]; rfl, ((G.refl w).alloc _).trans hg⟩
  · have h0 : 0 < s.size := by simp [vertexB] at hv; omega
    cases hl : letB (s[0]'h0)
    · have HV := Lib.hid (show freeB s = false by simp [freeB, headB_at s h0, hl])
      have HL := Lib.hid (show ltr (wrap32 ((s[0]'h0).toNat : Int)) = false by rw [wrap32_u8, ltr_u8, hl])
      have HX := Lib.hid hv
      clear hv hl
      go_enter Try.func58, Try.ntmps58
      go_wp2_with (first | (go_at_call 57; refine (vertex_is _ _ _ hs HX.out).mono ?_; rintro e w' ⟨rfl, hg⟩) | (go_at_call 71; refine (letter_is _ _ _ HL.out).mono ?_; rintro e w' ⟨rfl, rfl⟩))
      go_ret
      exact ⟨by rw [HV.out]; rfl, ((G.refl w).alloc _).trans (by assumption)⟩
    · have HV := Lib.hid (show freeB s = !inL s words by simp [freeB, headB_at s h0, hl, hv])
      have HL := Lib.hid (show ltr (wrap32 ((s[0]'h0).toNat : Int)) = true by rw [wrap32_u8, ltr_u8, hl])
      have HX := Lib.hid hv
      clear hv hl
      go_enter Try.func58, Try.ntmps58
      go_wp2_with (first | (go_at_call 57; refine (vertex_is _ _ _ hs HX.out).mono ?_; rintro e w' ⟨rfl, hg⟩) | (go_at_call 71; refine (letter_is _ _ _ HL.out).mono ?_; rintro e w' ⟨rfl, rfl⟩))
      have hr : Rdr (w.alloc (.cells (strs words).toArray 9)) 1 (.slice (some ⟨w.heap.size, 0, none⟩) 7 7) words.length (strs words) := rdr_alloc w (strs words) 9 (0, 0) 1 7 7 rfl
      have hr' := hr.g hg
      refine (contains_any words s _ _ hr' (by decide)).mono ?_
      rintro e w2 ⟨rfl, rfl⟩
      go_wp2_with fail
      go_ret
      exact ⟨by rw [HV.out]; rfl, ((G.refl w).alloc _).trans hg⟩
theorem inL_words (s : ByteArray) : inL s words = ((s.toList == [97, 115]) || (s.toList == [109, 97, 116, 99, 104]) || (s.toList == [119, 104, 101, 114, 101]) || (s.toList == [97, 110, 100]) || (s.toList == [114, 101, 116, 117, 114, 110]) || (s.toList == [114, 97, 110, 103, 101]) || (s.toList == [115, 108, 105, 100, 101])) := by
  have h : ∀ x : ByteArray, decide (x = s) = (s.toList == x.toList) := fun x => by rw [str_beq]; simp [eq_comm]
  simp only [inL, words, List.any_cons, List.any_nil, h, Bool.or_false, Bool.or_assoc, ByteArray.toList_eq]
end Go.Proofs.Ythhmmjpgefinmaa
