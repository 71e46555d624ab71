/- edges: texts, numbers out of bytes: the program's -/
import Derived.Test.YtfdajignnnhnmaaEdgeH
import Derived.Laws.BytesArg
import Derived.Laws.IdiomStrings
import Derived.Lib.EndianBits
namespace Go.Proofs.Ytfdajignnnhnmaa
set_option linter.unusedVariables false
set_option linter.unusedSimpArgs false
open Go.RowKit Go.Shelf
attribute [local go_sem] Oper.semAt_some

def headN (l : List UInt8) : Nat := (l.headD 0).toNat
def wordP (s : St) : ByteArray × St := (⟨(takeP (headN (takeP 1 s).1) (takeP 1 s).2).1.toArray⟩, (takeP (headN (takeP 1 s).1) (takeP 1 s).2).2)
theorem headN_lt (l : List UInt8) : headN l ≤ 255 := by unfold headN; have := (l.headD 0).toNat_lt; omega
theorem bys_head {l : List UInt8} (h : 0 < l.length) : (bys l)[0]? = some (.int .u8 (headN l)) := by
  cases l with
  | nil => simp at h
  | cons c l => simp [bys, headN]
theorem conv_bys (w : World) (l : List UInt8) (n : Nat) (v : Value) (h : Rdr w 1 v n (bys l)) : (convert 22 9 v).run Try.prog w = .ok (.string ⟨l.toArray⟩) w := by
  obtain ⟨hl, p, c, rfl, hc⟩ := h
  rw [bys_len, Nat.mul_one] at hl
  subst hl
  cases p with
  | none =>
    have h0 : l.length = 0 := by
      rcases Nat.eq_zero_or_pos l.length with h | h
      · exact h
      · obtain ⟨b, o, h, _⟩ := hc h; cases h
    obtain rfl : l = [] := List.eq_nil_of_length_eq_zero h0
    exact run_convert_bytes_nil w 22 5 Try.underlying22 Try.underlying5 0 c 9 Try.underlying9
  | some a =>
    refine run_convert_bytes_back w 22 9 5 a c l Try.underlying22 Try.underlying5 Try.underlying9 (fun j hj => ?_)
    obtain ⟨b, o, h, hcell⟩ := hc (by omega)
    cases h
    rw [addr_add]
    exact hcell j _ (bys_get (List.getElem?_eq_getElem hj))

set_option maxHeartbeats 1000000 in
theorem word_any (b4 bb bd : Nat) (s : St) (w : World) (h : Rs w bb bd s) (h4 : Boxed w b4 60 (.func (.func 71) #[] #[.pointer (some ⟨bd, 0, none⟩), .pointer (some ⟨bb, 0, none⟩)])) (hn1 : b4 ≠ bb) (hn2 : b4 ≠ bd) :
    Calls Try.prog 39 #[.pointer (some ⟨b4, 0, none⟩)] w fun e w' => e = .returned (.string (wordP s).1) ∧ Rs w' bb bd (wordP s).2 ∧ Fr (fun k => k = bb ∨ k = bd) w w' := by
  have hc4 := h4.cell
  obtain ⟨s1, hs1⟩ : ∃ s1, s1 = (takeP 1 s).2 := ⟨_, rfl⟩
  obtain ⟨n, hn⟩ : ∃ n, n = headN (takeP 1 s).1 := ⟨_, rfl⟩
  have hn255 : n ≤ 255 := by rw [hn]; exact headN_lt _
  have hwn : IntKind.i64.wrap (n : Int) = n := IntWalk.i64_in _ (by omega)
  have HW := Lib.hid (show wordP s = (⟨(takeP n s1).1.toArray⟩, (takeP n s1).2) by rw [hn, hs1]; rfl)
  have HT := Lib.hid (take_any 1 bb bd s w.drew (h.g (G.refl w).drew) (by omega))
  rw [← hs1] at HT
  have HL := Lib.hid (bys_head (l := (takeP 1 s).1) (by rw [takeP_len]; omega))
  rw [← hn] at HL
  clear h h4 hs1 hn
  go_enter Try.func39, Try.ntmps39
  go_upto_region 1 with fail
  refine region_hlW (fun w' => w'.cell? ⟨b4, 0, none⟩ = some (.func (.func 71) #[] #[.pointer (some ⟨bd, 0, none⟩), .pointer (some ⟨bb, 0, none⟩)])) 99 9 (by kernel_rfl) rfl ?_
  intro Q0 HQ0
  simp only [List.replicate_succ, List.replicate_zero]
  have hs0 : w.drew.cell? ⟨b4, 0, none⟩ = some (.func (.func 71) #[] #[.pointer (some ⟨bd, 0, none⟩), .pointer (some ⟨bb, 0, none⟩)]) := (G.refl w).drew.cell hc4
  refine hl_take_np 0 (by kernel_rfl) (by kernel_rfl) rfl (by kernel_rfl) hs0 (v := ?_) ?_ ?_
  rotate_left
  · (rintro x hx; go_simp; try rfl)
  simp only [Act.put, List.setIfInBounds_toArray, List.set_cons_zero, List.set_cons_succ]
  refine hl_take_np 1 (by kernel_rfl) (by kernel_rfl) rfl (by kernel_rfl) hs0 (v := ?_) ?_ ?_
  rotate_left
  · (rintro x hx; go_simp; try rfl)
  simp only [Act.put, List.setIfInBounds_toArray, List.set_cons_zero, List.set_cons_succ]
  refine hl_stepW 2 (by kernel_rfl) rfl (by kernel_rfl) ?_
  intro K hK
  go_simp
  refine HT.out.mono ?_
  rintro e w1 ⟨u, rfl, hu, hr1, hf1⟩
  have hs1 := hf1.cell (p := ⟨b4, 0, none⟩) (by simp; exact ⟨hn1, hn2⟩) hs0
  obtain ⟨-, up, uc, rfl, -⟩ := id hu
  obtain ⟨b, o, rfl, hcell⟩ := hu.one (by omega)
  have hx := hcell 0 _ HL.out
  refine hK _ _ (fun _ => hs1) ?_
  clear hK K HT HL hcell
  simp only [Act.put, List.setIfInBounds_toArray, List.set_cons_zero, List.set_cons_succ]
  rw [Nat.add_zero] at hx
  refine hl_stepW 3 (by kernel_rfl) rfl (by kernel_rfl) ?_
  intro K hK
  go_simp
  refine hK _ _ (fun _ => hs1) ?_
  clear hK K
  simp only [Act.put, List.setIfInBounds_toArray, List.set_cons_zero, List.set_cons_succ]
  refine hl_stepW 4 (by kernel_rfl) rfl (by kernel_rfl) ?_
  intro K hK
  go_simp
  refine hK _ _ (fun _ => hs1) ?_
  clear hK K
  simp only [Act.put, List.setIfInBounds_toArray, List.set_cons_zero, List.set_cons_succ]
  refine hl_stepW 5 (by kernel_rfl) rfl (by kernel_rfl) ?_
  intro K hK
  go_simp
  refine hK _ _ (fun _ => hs1) ?_
  clear hK K
  simp only [Act.put, List.setIfInBounds_toArray, List.set_cons_zero, List.set_cons_succ]
  refine hl_stepW 6 (by kernel_rfl) rfl (by kernel_rfl) ?_
  intro K hK
  go_simp
  refine (take_any n bb bd s1 w1 hr1 hn255).mono ?_
  rintro e w2 ⟨u2, rfl, hu2, hr2, hf2⟩
  have hs2 := hf2.cell (p := ⟨b4, 0, none⟩) (by simp; exact ⟨hn1, hn2⟩) hs1
  have hcv := conv_bys w2 _ n u2 hu2
  refine hK _ _ (fun _ => hs2) ?_
  clear hK K
  simp only [Act.put, List.setIfInBounds_toArray, List.set_cons_zero, List.set_cons_succ]
  refine hl_stepW 7 (by kernel_rfl) rfl (by kernel_rfl) ?_
  intro K hK
  go_simp
  refine hK _ _ (fun _ => hs2) ?_
  clear hK K
  simp only [Act.put, List.setIfInBounds_toArray, List.set_cons_zero, List.set_cons_succ]
  refine hl_stepW 8 (by kernel_rfl) rfl (by kernel_rfl) ?_
  intro K hK
  go_simp
  refine hK _ _ (fun _ => hs2) ?_
  clear hK K
  simp only [Act.put, List.setIfInBounds_toArray, List.set_cons_zero, List.set_cons_succ]
  refine hl_done (by kernel_rfl) ?_ _
  refine NoPanic.normal (HQ0.out _ _ ?_)
  clear HQ0 hcv
  go_wp2_with fail
  go_ret
  exact ⟨by rw [HW.out]; rfl, by rw [HW.out]; exact hr2, ((((G.refl w).drew).fr _).trans hf1 (fun _ _ h => h)).trans hf2 (fun _ _ h => h)⟩

def foldB (l : List UInt8) (n : Int) : Int := l.foldl (fun n c => n * 256 + (c.toNat : Int)) n
def numP (s : St) : Int × St := (foldB (takeP 6 s).1 0, (takeP 6 s).2)
theorem foldB_take (l : List UInt8) (k : Nat) (c : UInt8) (h : l[k]? = some c) : foldB (l.take (k + 1)) 0 = foldB (l.take k) 0 * 256 + (c.toNat : Int) := by
  unfold foldB; rw [List.take_add_one, h, List.foldl_append]; rfl
theorem foldB_bd : ∀ (l : List UInt8) (n : Int), 0 ≤ n → 0 ≤ foldB l n ∧ foldB l n < (n + 1) * 256 ^ l.length
  | [], n, h => ⟨h, by show n < (n + 1) * 1; omega⟩
  | c :: l, n, h => by
    have hc := c.toNat_lt
    have ih := foldB_bd l (n * 256 + (c.toNat : Int)) (by omega)
    have e : foldB (c :: l) n = foldB l (n * 256 + (c.toNat : Int)) := rfl
    rw [e]
    refine ⟨ih.1, Int.lt_of_lt_of_le ih.2 ?_⟩
    rw [List.length_cons, Int.pow_succ, ← Int.mul_assoc, Int.mul_right_comm]
    exact Int.mul_le_mul_of_nonneg_right (by omega) (Int.pow_nonneg (by decide))
theorem foldB_lt (l : List UInt8) (k : Nat) (hk : k ≤ 5) : 0 ≤ foldB (l.take k) 0 ∧ foldB (l.take k) 0 < 1099511627776 := by
  have h := foldB_bd (l.take k) 0 (by omega)
  refine ⟨h.1, Int.lt_of_lt_of_le h.2 ?_⟩
  have h2 : (l.take k).length ≤ 5 := by rw [List.length_take]; omega
  have e0 : (256 : Int) ^ 0 = 1 := by decide
  have e1 : (256 : Int) ^ 1 = 256 := by decide
  have e2 : (256 : Int) ^ 2 = 65536 := by decide
  have e3 : (256 : Int) ^ 3 = 16777216 := by decide
  have e4 : (256 : Int) ^ 4 = 4294967296 := by decide
  have e5 : (256 : Int) ^ 5 = 1099511627776 := by decide
  rcases (by omega : (l.take k).length = 0 ∨ (l.take k).length = 1 ∨ (l.take k).length = 2 ∨ (l.take k).length = 3 ∨ (l.take k).length = 4 ∨ (l.take k).length = 5) with h | h | h | h | h | h <;> rw [h] <;> omega
theorem or_byte (q : Int) (c : UInt8) (h0 : 0 ≤ q) (h1 : q < 1099511627776) : bits .or .i64 (q * 256) (c.toNat : Int) = q * 256 + (c.toNat : Int) := by
  have hc := c.toNat_lt
  exact bits_join .i64 62 (by decide) (fun n a b => IntWalk.i64_in n (by omega)) 8 (q * 256) (c.toNat : Int) (by omega) (by omega) (by omega) (by omega) (by omega) (by omega)
theorem num_any (b4 bb bd : Nat) (s : St) (w : World) (h : Rs w bb bd s) (h4 : Boxed w b4 60 (.func (.func 71) #[] #[.pointer (some ⟨bd, 0, none⟩), .pointer (some ⟨bb, 0, none⟩)])) :
    Calls Try.prog 40 #[.pointer (some ⟨b4, 0, none⟩)] w fun e w' => e = .returned (.int .i64 (numP s).1) ∧ Rs w' bb bd (numP s).2 ∧ Fr (fun k => k = bb ∨ k = bd) w w' := by
  have hc4 := h4.cell
  have HT := Lib.hid (take_any 6 bb bd s w h (by omega))
  obtain ⟨l, hl⟩ : ∃ l, l = (takeP 6 s).1 := ⟨_, rfl⟩
  have hll : l.length = 6 := by rw [hl, takeP_len]
  have HP := Lib.hid (show numP s = (foldB l 0, (takeP 6 s).2) by rw [hl]; rfl)
  rw [← hl] at HT
  have HLL := Lib.hid hll
  clear h h4 hl hll
  go_enter Try.func40, Try.ntmps40
  go_wp2_with fail
  refine HT.out.mono ?_
  rintro e w1 ⟨u, rfl, hu, hr1, hf1⟩
  obtain ⟨-, up, uc, rfl, -⟩ := id hu
  obtain ⟨b, o, rfl, hcell⟩ := hu.one (by omega)
  have HCELL := Lib.hid hcell
  clear HT hcell hu
  go_wp2_with fail
  go_loopw [1, 7] (fun x i wr => ∃ k : Nat, k ≤ 6 ∧ i = .int .i64 k ∧ x = .int .i64 (foldB (l.take k) 0) ∧ w1 = wr) (fun _ i _ => 6 - (intOf i).toNat)
  case atStart => exact ⟨0, by omega, rfl, rfl, rfl⟩
  case round =>
    obtain ⟨k, hk, rfl, rfl, rfl⟩ := hrel
    by_cases hlt : k < 6
    · obtain ⟨c, hc⟩ : ∃ c, l[k]? = some c := ⟨l[k]'(by have := HLL.out; omega), List.getElem?_eq_getElem _⟩
      have cx := HCELL.out k _ (bys_get hc)
      obtain ⟨f0, f1⟩ := foldB_lt l k (by omega)
      have HF := Lib.hid (foldB_take l k c hc)
      obtain ⟨q, hq⟩ : ∃ q, q = foldB (l.take k) 0 := ⟨_, rfl⟩
      rw [← hq] at HF f0 f1 ⊢
      have hcl := c.toNat_lt
      have HOR := Lib.hid (or_byte q c f0 f1)
      clear hc hq
      go_wp2_with fail
      go_roundw
      case rel => exact ⟨k + 1, by omega, by go_num, by rw [HOR.out, HF.out], trivial⟩
      case measure => simp [intOf]; omega
    · have hk6 : l.take k = l := List.take_of_length_le (by have := HLL.out; omega)
      have H2 := Lib.hid (show foldB (l.take k) 0 = (numP s).1 by rw [hk6, HP.out])
      have H3 := Lib.hid (show (takeP 6 s).2 = (numP s).2 by rw [HP.out])
      rw [H3.out] at hr1
      rw [H2.out]
      have HR := Lib.hid hr1
      clear hk6 hr1
      go_wp2_with fail
      go_ret
      exact ⟨rfl, HR.out, hf1⟩
end Go.Proofs.Ytfdajignnnhnmaa
