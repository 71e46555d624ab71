/- edges: texts and numbers as bytes, rows of bytes one behind the other -/
import Derived.Test.YtfdajignnnhnmaaEdgeK
import Derived.Lib.AppendStr
import Derived.Lib.AppendZeros
import Derived.Deep.OwnRows
namespace Go.Proofs.Ytfdajignnnhnmaa
set_option linter.unusedVariables false
set_option linter.unusedSimpArgs false
open Go.RowKit Go.Shelf
attribute [local go_sem] Oper.semAt_some

theorem owns_lit (w : World) (e : TypeId) (xs : List Value) (n : Nat) (hl : xs.length = n) (hn : n ≤ 1099511627776) : (w.alloc (.cells xs.toArray e (0, 0))).ownsRow w.heap.size e 1 (.slice (some ⟨w.heap.size, 0, none⟩) n n) n xs :=
  ⟨by omega, .inr ⟨w.heap.size, n, _, rfl, Nat.le_refl _, alloc_new w _, Nat.le_refl _, by unfold maxLen; omega, by simp [hl], by simp [← hl]⟩⟩
def b8 (x : Int) : UInt8 := UInt8.ofNat (x % 256).toNat
theorem b8_int (x : Int) : ((b8 x).toNat : Int) = x % 256 := by
  unfold b8
  rw [UInt8.toNat_ofNat']
  omega
def textB (s : ByteArray) : List UInt8 := UInt8.ofNat s.size :: s.data.toList
theorem textB_len (s : ByteArray) : (textB s).length = 1 + s.size := by simp [textB]; omega
theorem strCells_bys (s : ByteArray) : Lib.strCells s = bys s.data.toList := rfl
theorem textB_bys (s : ByteArray) : bys (textB s) = [.int .u8 ((s.size : Int) % 256)] ++ bys s.data.toList := by
  simp only [textB, bys, List.map_cons, List.singleton_append]
  congr 2
def numB (n : Int) : List UInt8 := [b8 (n / 1099511627776), b8 (n / 4294967296), b8 (n / 16777216), b8 (n / 65536), b8 (n / 256), b8 n]
theorem numB_bys (n : Int) : bys (numB n) = [.int .u8 (n / 1099511627776 % 256), .int .u8 (n / 4294967296 % 256), .int .u8 (n / 16777216 % 256), .int .u8 (n / 65536 % 256), .int .u8 (n / 256 % 256), .int .u8 (n % 256)] := by
  simp only [numB, bys, List.map_cons, List.map_nil, b8_int]

theorem text_any (s : ByteArray) (w : World) (hs : s.size ≤ 1099511627776) : Calls Try.prog 46 #[.string s] w fun e w' => ∃ v, e = .returned v ∧ w'.ownsRow w.heap.size 5 1 v (1 + s.size) (bys (textB s)) ∧ G w w' := by
  obtain ⟨i0, hi, hz0, hz1, hz2⟩ := info_parts infoB
  go_enter Try.func46, Try.ntmps46
  go_wp2_with (at_builtin; refine Lib.wpList_append_own_string _ rfl _ _ 22 9 rfl w.heap.size 5 i0 Try.underlying22 Try.underlying9 hi hz0 hz1 hz2 (.slice (some ⟨w.heap.size, 0, none⟩) 1 1) 1 [.int .u8 ((s.size : Int) % 256)] rfl (owns_lit w _ _ 1 rfl (by omega)) s rfl (by unfold maxLen; omega) (by omega) (by simp) ?_; intro v w1 hown1 hgrow1 hn1)
  go_ret
  exact ⟨_, rfl, by rw [textB_bys]; exact hown1, ((G.refl w).alloc _).grown hgrow1 (fun q h => by cases h; exact Nat.le_refl _)⟩
theorem made6 : (madeCells #[Value.int .u8 0] 6) = #[.int .u8 0, .int .u8 0, .int .u8 0, .int .u8 0, .int .u8 0, .int .u8 0] := by kernel_rfl
theorem number_any (n : Int) (w : World) (h0 : 0 ≤ n) (h1 : n ≤ 1125899906842624) : Calls Try.prog 47 #[.int .i64 n] w fun e w' => ∃ v, e = .returned v ∧ w'.ownsRow w.heap.size 5 1 v 6 (bys (numB n)) ∧ G w w' := by
  obtain ⟨i0, hi, hz0, hz1, hz2⟩ := info_parts infoB
  go_enter Try.func47, Try.ntmps47
  go_wp2_with (at_make; go_loud (refine wpList_make_row w rfl _ _ _ rfl 5 i0 (.int .u8 0) Try.underlying22 hi hz0 hz1 rfl .i64 .i64 6 rfl rfl (by rw [hz2]; omega) (by omega) ?_); rw [made6])
  go_rounds 7
  go_ret
  exact ⟨_, rfl, by rw [numB_bys]; exact owns_lit w _ _ 6 rfl (by omega), (G.refl w).alloc _⟩

theorem owns_zero (w : World) (e : TypeId) (cs : Array Value) (c : Nat) (hl : cs.size = c) (hc : c ≤ maxLen) : (w.alloc (.cells cs e (0, 0))).ownsRow w.heap.size e 1 (.slice (some ⟨w.heap.size, 0, none⟩) 0 c) 0 [] :=
  ⟨rfl, .inr ⟨w.heap.size, c, _, rfl, Nat.le_refl _, alloc_new w _, Nat.zero_le _, hc, by omega, rfl⟩⟩
theorem grow_any (n : Nat) (w : World) (hn : n ≤ 1099511627776) : Calls Try.prog 73 #[.slice none 0 0, .int .i64 n] w fun e w' => ∃ v, e = .returned v ∧ w'.ownsRow w.heap.size 5 1 v 0 [] ∧ G w w' := by
  obtain ⟨i0, hi, hz0, hz1, hz2⟩ := info_parts infoB
  by_cases h0 : n = 0
  · subst h0
    go_enter Try.func73, Try.ntmps73
    go_wp2_with fail
    go_ret
    exact ⟨_, rfl, World.ownsRow_nil _ _ _ _, G.refl _⟩
  · have hp : (0 : Int) < (n : Int) := by omega
    have hr := Lib.run_append_nil_zeros (P := Try.prog) w 22 3 22 5 i0 (.int .u8 0) .i64 .i64 Try.underlying22 Try.underlying3 hi hz0 n (by omega) (by omega) (by omega) (by rw [hz2]; omega)
    have hge := grownCap_ge w n 0 5
    have hcm := grownCap_le_maxLen w n 0 5 (show n ≤ maxLen by unfold maxLen; omega)
    obtain ⟨c, hc⟩ : ∃ c, c = grownCap w n 0 5 := ⟨_, rfl⟩
    rw [← hc] at hr hge hcm
    have hcm2 : c ≤ 9223372036854775807 := by unfold maxLen at hcm; omega
    obtain ⟨cs, hcs⟩ : ∃ cs, cs = (Builtin.zeroCells (Value.int IntKind.u8 0).cells n ++ Builtin.zeroCells (Value.int IntKind.u8 0).cells (c - n)) := ⟨_, rfl⟩
    have hsz : cs.size = c := by
      have hz1 : (Value.int IntKind.u8 0).cells.size = 1 := rfl
      rw [hcs, Array.size_append, size_zeroCells, size_zeroCells, hz1]; omega
    rw [← hcs] at hr
    have HR := Lib.hid hr
    have HSZ := Lib.hid hsz
    clear hc hcs hr hsz
    go_enter Try.func73, Try.ntmps73
    go_wp2_with (at_builtin; refine Lib.wpList_append_run w rfl _ _ _ _ rfl (.slice none 0 0) (.int .i64 n) rfl rfl _ _ HR.out ?_)
    go_ret
    exact ⟨_, rfl, owns_zero w.drew _ cs c HSZ.out hcm, ((G.refl w).drew).alloc _⟩
/-- rows of bytes -/
def RowsB (W : World) (v : Value) (bss : List (List UInt8)) : Prop :=
  ∃ vs : List Value, vs.length = bss.length ∧ Rdr W 1 v bss.length vs ∧ ∀ (k : Nat) u bs, vs[k]? = some u → bss[k]? = some bs → Rdr W 1 u bs.length (bys bs)
theorem RowsB.g {W W' : World} {v : Value} {bss : List (List UInt8)} (h : RowsB W v bss) (hg : G W W') : RowsB W' v bss := by
  obtain ⟨vs, h1, h2, h3⟩ := h
  exact ⟨vs, h1, h2.g hg, fun k u bs a b => (h3 k u bs a b).g hg⟩
def tot (bss : List (List UInt8)) : Nat := (bss.map List.length).sum
theorem tot_take (bss : List (List UInt8)) (k : Nat) (bs : List UInt8) (h : bss[k]? = some bs) : tot (bss.take (k + 1)) = tot (bss.take k) + bs.length := by
  unfold tot
  rw [List.take_add_one, h]; simp
theorem tot_le (bss : List (List UInt8)) (k : Nat) : tot (bss.take k) ≤ tot bss := by
  have : bss = bss.take k ++ bss.drop k := (List.take_append_drop k bss).symm
  have h2 : tot bss = tot (bss.take k) + tot (bss.drop k) := by
    conv => lhs; rw [this]
    unfold tot; rw [List.map_append, List.sum_append]
  omega
theorem flat_take (bss : List (List UInt8)) (k : Nat) (bs : List UInt8) (h : bss[k]? = some bs) : (bss.take (k + 1)).flatten = (bss.take k).flatten ++ bs := by
  rw [List.take_add_one, h]; simp
theorem tot_flat (bss : List (List UInt8)) : bss.flatten.length = tot bss := by unfold tot; rw [List.length_flatten]

theorem concat_any (bss : List (List UInt8)) (v : Value) (w : World) (hv : RowsB w v bss) (hn : bss.length ≤ 1000) (ht : tot bss ≤ 1099511627776) :
    Calls Try.prog 45 #[v] w fun e w' => ∃ v, e = .returned v ∧ w'.ownsRow w.heap.size 5 1 v (tot bss) (bys bss.flatten) ∧ G w w' := by
  obtain ⟨i0, hi, hz0, hz1, hz2⟩ := info_parts infoB
  obtain ⟨vs, hvl, hrd, hrow⟩ := hv
  obtain ⟨-, vp, vc, rfl, -⟩ := id hrd
  obtain ⟨n, hnn⟩ : ∃ n, n = bss.length := ⟨_, rfl⟩
  rw [← hnn] at hrd hn hvl ⊢
  have HN := Lib.hid hnn
  have HRD := Lib.hid hrd
  have HROW := Lib.hid hrow
  have HVL := Lib.hid hvl
  clear hnn hrd hrow hvl
  go_enter Try.func45, Try.ntmps45
  go_wp2_with fail
  go_loopw [3, 11] (fun s i wr => ∃ k : Nat, k ≤ n ∧ i = .int .i64 k ∧ s = .int .i64 (tot (bss.take k)) ∧ w = wr) (fun _ i _ => n - (intOf i).toNat)
  case atStart => exact ⟨0, by omega, rfl, rfl, rfl⟩
  case round =>
    obtain ⟨k, hk, rfl, rfl, rfl⟩ := hrel
    by_cases hlt : k < n
    · obtain ⟨bs, hbs⟩ : ∃ bs, bss[k]? = some bs := ⟨bss[k]'(by have := HN.out; omega), List.getElem?_eq_getElem _⟩
      obtain ⟨u, hu⟩ : ∃ u, vs[k]? = some u := ⟨vs[k]'(by have := HVL.out; omega), List.getElem?_eq_getElem _⟩
      obtain ⟨b, o, rfl, hc⟩ := HRD.out.one (by omega)
      have c0 := hc k u hu
      obtain ⟨-, up, uc, rfl, -⟩ := HROW.out k u bs hu hbs
      have hle := tot_le bss (k + 1)
      have hstep := tot_take bss k bs hbs
      obtain ⟨m, hm⟩ : ∃ m, m = bs.length := ⟨_, rfl⟩
      obtain ⟨s0, hs0⟩ : ∃ s, s = tot (bss.take k) := ⟨_, rfl⟩
      rw [← hm, ← hs0] at hstep
      rw [← hm] at c0
      rw [← hs0]
      rw [hstep] at hle
      have hle2 : s0 + m ≤ 1099511627776 := by omega
      have HST := Lib.hid hstep
      clear hstep hle hs0 hm hc hu hbs
      go_wp2_with fail
      go_roundw
      case rel => exact ⟨k + 1, by omega, by go_num, by rw [HST.out]; go_num, trivial⟩
      case measure => simp [intOf]; omega
    · have hs : tot (bss.take k) = tot bss := by rw [List.take_of_length_le (by have := HN.out; omega)]
      obtain ⟨s0, hs0⟩ : ∃ s, s = tot bss := ⟨_, rfl⟩
      rw [hs, ← hs0] 
      rw [← hs0] at ht
      have HS0 := Lib.hid hs0
      clear hs hs0
      go_wp2_with fail
      refine (grow_any s0 w ht).mono ?_
      rintro e w1 ⟨v1, rfl, hown1, hg1⟩
      have hzz := hg1.size
      go_wp2_with fail
      go_loopw [6, 27] (fun u i wr => ∃ (k : Nat) (p' : Option Addr) (c' : Nat), k ≤ n ∧ i = .int .i64 k ∧ u = .slice p' (tot (bss.take k)) c' ∧ wr.ownsRow w.heap.size 5 1 (.slice p' (tot (bss.take k)) c') (tot (bss.take k)) (bys (bss.take k).flatten) ∧ G w wr) (fun _ i _ => n - (intOf i).toNat)
      case atStart =>
        obtain ⟨p, c, rfl⟩ := ownsRow_shape hown1
        exact ⟨0, p, c, by omega, rfl, rfl, hown1, hg1⟩
      case round =>
        clear hown1 hg1 hzz
        obtain ⟨k, p', c', hk, rfl, rfl, hown, hg⟩ := hrel
        by_cases hlt : k < n
        · obtain ⟨bs, hbs⟩ : ∃ bs, bss[k]? = some bs := ⟨bss[k]'(by have := HN.out; omega), List.getElem?_eq_getElem _⟩
          obtain ⟨u, hu⟩ : ∃ u, vs[k]? = some u := ⟨vs[k]'(by have := HVL.out; omega), List.getElem?_eq_getElem _⟩
          obtain ⟨b, o, rfl, hc⟩ := HRD.out.one (by omega)
          have c0 := hg.cell (hc k u hu)
          have hru := (HROW.out k u bs hu hbs).g hg
          obtain ⟨-, up, uc, rfl, -⟩ := id hru
          have hle := tot_le bss (k + 1)
          have hstep := tot_take bss k bs hbs
          have hfl := flat_take bss k bs hbs
          obtain ⟨m, hm⟩ : ∃ m, m = bs.length := ⟨_, rfl⟩
          obtain ⟨q, hq⟩ : ∃ q, q = tot (bss.take k) := ⟨_, rfl⟩
          rw [← hm, ← hq] at hstep
          rw [← hm] at c0 hru
          rw [← hq] at hown ⊢
          rw [hstep] at hle
          have hle2 : q + m ≤ 1099511627776 := by have := HS0.out; omega
          have HRU := Lib.hid hru
          have HST := Lib.hid hstep
          have HFL := Lib.hid hfl
          have HOWN := Lib.hid hown
          clear hstep hle hq hm hc hu hbs hru hfl hown
          go_wp2_with (at_builtin; go_loud (refine wpList_appendR _ rfl _ _ 22 rfl w.heap.size 5 i0 (.int .u8 0) 1 1 Try.underlying22 hi hz0 hz1 hz2 rfl (by decide) (.slice p' q c') q (bys (bss.take k).flatten) rfl HOWN.out (.slice up m uc) m (bys bs) rfl HRU.out (bys_one bs) (by unfold maxLen; omega) (by omega) hg.size ?_); intro mp mc w2 hown2 hgrow2 hat2)
          have hg2 : G w w2 := hg.grown hgrow2 (fun r h => (HOWN.out.lt r h).1)
          go_roundw
          case rel => exact ⟨k + 1, mp, mc, by omega, by go_num, by rw [HST.out], by rw [HST.out, HFL.out, bys_app]; exact hown2, hg2⟩
          case measure => simp [intOf]; omega
        · have hs : bss.take k = bss := List.take_of_length_le (by have := HN.out; omega)
          rw [hs] at hown ⊢
          have HOWN := Lib.hid hown
          clear hown hs
          go_wp2_with fail
          go_ret
          exact ⟨_, rfl, HOWN.out, hg⟩
end Go.Proofs.Ytfdajignnnhnmaa
