/- the buffer: the times, one behind the other -/
import Derived.Test.YthhmmjpgefinmaaBufK
set_option maxRecDepth 10000
namespace Go.Proofs.Ythhmmjpgefinmaa
set_option linter.unusedVariables false
set_option linter.unusedSimpArgs false
open Go.RowKit Go.Shelf
attribute [local go_sem] Oper.semAt_some

def encT (x : Int) : Array Value := #[.int .i64 x]
theorem keys_all {p : Bp} {S P : Nat → Prop} {W : World} {B : Nat} {s : List Out} (h : BufIn S P W B s p) : tk 9223372036854775807 p.hs.length p.hs = p.L := by
  rw [h.hk.1.tk 9223372036854775807 (Nat.le_refl _)]
  refine tw_all (fun x hx => ?_)
  have h1 : x.1 ∈ p.ks := (h.hk.2.2.2 x.1).1 (List.mem_map.2 ⟨x, hx, rfl⟩)
  have := (h.map.keys x.1 h1).2
  simpa [upK] using this
theorem take_snoc {ts : List Int} {k : Nat} {t : Int} (h : ts[k]? = some t) : ts.take (k + 1) = ts.take k ++ [t] := by
  rw [List.take_add_one, h]; rfl
set_option maxHeartbeats 4000000 in
theorem rising_seq (SH : Nat → Prop) (H : Nat) (v : Value) (hs L : List Item) (b1 : Nat) (w : World) (h : HeapAt SH w H v hs) (hL : tk 9223372036854775807 hs.length hs = L) (h1 : Boxed w b1 78 (.pointer (some ⟨H, 0, none⟩))) (hn : hs.length ≤ 1000000) :
    Seq Try.prog 53 #[.pointer (some ⟨b1, 0, none⟩)] encT (fun _ => False) (fun k => k = b1)
      (fun xs _ W => xs = L.map (·.1)) (fun pre _ W => True) (fun pre x => pre ++ [x] <+: L.map (·.1)) w := by
  intro l J Jx W hW hJ hJx hY hj0
  have HY := Lib.hid hY
  have HJ := Lib.hid hJ
  replace h := h.g hW
  replace h1 := hW.boxed h1
  have hb1 := h1.lt
  have HI := Lib.hid (items_any SH H v hs W h hn)
  rw [hL] at HI
  have hLl : L.length ≤ 1000000 := by rw [← hL]; have := tk_len 9223372036854775807 hs.length hs; omega
  clear hY hJ hJx h hL
  show Calls Try.prog 53 #[.func (.yield l) #[] #[], .pointer (some ⟨b1, 0, none⟩)] W _
  have c1 := h1.cell
  go_enter Try.func53, Try.ntmps53
  go_wp2_with fail
  refine HI.out.mono ?_
  rintro e w1 ⟨u, rfl, hown, hg1⟩
  obtain ⟨q, c, hu⟩ := ownsRow_shape hown
  subst hu
  have hlt1 : ∀ g, (Value.slice q L.length c).ownBlock = some g → W.heap.size ≤ g ∧ g < w1.heap.size := fun g hg => hown.lt g hg
  have HLT1 := Lib.hid hlt1
  obtain ⟨n, hnn⟩ : ∃ n, n = L.length := ⟨_, rfl⟩
  have hj1 : J [] (fun k => k = b1 ∨ (Value.slice q L.length c).ownBlock = some k) w1 := HJ.out [] _ _ W _ hj0 (fun k hk => .inl hk) (fun k hk => hk.imp id (fun e => (hlt1 k e).1)) (hg1.fr _)
  have hsz1 := hg1.size
  have HX0 := Lib.hid (And.intro hj1 hown)
  rw [← hnn] at HX0 HLT1 hLl ⊢
  have HNN := Lib.hid hnn
  clear hj1 hown hg1 hlt1 HI h1 c1 hj0 hnn
  go_wp2_with fail
  go_loopw [9] (fun kv wr => ∃ k : Nat, kv = .int .i64 k ∧ k ≤ n ∧ W.heap.size ≤ wr.heap.size ∧ w1.heap.size ≤ wr.heap.size ∧ Hid (J ((L.map (·.1)).take k) (fun k => k = b1 ∨ (Value.slice q n c).ownBlock = some k) wr ∧ wr.ownsRow W.heap.size 94 2 (.slice q n c) n (icells L))) (fun kv _ => n - (intOf kv).toNat)
  case atStart => exact ⟨0, rfl, by omega, hsz1, Nat.le_refl _, Lib.hid (by simpa using HX0.out)⟩
  case round =>
    clear HX0
    obtain ⟨k, rfl, hk, hsz, hsz2, HX⟩ := hrel
    by_cases hlt : k < n
    · have hkI : (k : Int) < (n : Int) := by omega
      obtain ⟨x, hx⟩ : ∃ x, L[k]? = some x := ⟨L[k]'(by have := HNN.out; omega), List.getElem?_eq_getElem _⟩
      obtain ⟨gb, go, rfl, z0, z1⟩ := rdr_item (rdr_of_owns HX.out.2) hx
      have hxt : (L.map (·.1))[k]? = some x.1 := by rw [List.getElem?_map, hx]; rfl
      have HTS := Lib.hid (take_snoc hxt)
      have HPX : Hid ((L.map (·.1)).take k ++ [x.1] <+: L.map (·.1)) := Lib.hid (by rw [← HTS.out]; exact List.take_prefix _ _)
      obtain ⟨x0, x1⟩ := x
      have hA : G wr (wr.alloc (.cells #[.int .i64 x0, .int .i64 x1] 94)) := (G.refl wr).alloc _
      have hgl : gb < w1.heap.size := (HLT1.out gb rfl).2
      obtain ⟨fn, tmps, assign, body, hy, hR⟩ := HY.out _ x0 (fun k => k = b1 ∨ (Value.slice (some ⟨gb, go, none⟩) n c).ownBlock = some k) (wr.alloc (.cells #[.int .i64 x0, .int .i64 x1] 94)) (fun k hk => hk.imp id (fun e => (HLT1.out k e).1)) (fun k hk => by
        simp only [World.size_alloc]
        rcases hk with e | e
        · omega
        · have := (HLT1.out k e).2; omega) (by simp only [World.size_alloc]; omega) (HJ.out _ _ _ _ _ HX.out.1 (fun _ h => h) (fun _ h => .inl h) (hA.fr _)) HPX.out
      have HR := Lib.hid hR
      simp only [encT] at hy
      have HOW := Lib.hid (hA.ownsRow HX.out.2)
      have k0 : (wr.alloc (.cells #[.int .i64 x0, .int .i64 x1] 94)).cell? ⟨wr.heap.size, 0, none⟩ = some (.int .i64 x0) := cell_alloc_at wr [.int .i64 x0, .int .i64 x1] 94 (0, 0) 0 _ rfl
      clear hR hxt HX hx
      go_upto_region 3 with fail
      refine (wpIn_wide (n := 3)).1 ?_
      gi_wp2
      refine HR.out.mono ?_
      rintro e W3 hrp
      rcases hrp.elim with ⟨rfl, hfr, hj3⟩ | ⟨rfl, hfr, hj3⟩
      · have HX3 := Lib.hid (show J ((L.map (·.1)).take (k + 1)) (fun k => k = b1 ∨ (Value.slice (some ⟨gb, go, none⟩) n c).ownBlock = some k) W3 ∧ W3.ownsRow W.heap.size 94 2 (.slice (some ⟨gb, go, none⟩) n c) n (icells L) from
          ⟨by rw [HTS.out]; exact hj3, hfr.ownsRow HOW.out (fun g hg h => h (.inl (.inr hg)))⟩)
        have hz3 := hfr.size
        simp only [World.size_alloc] at hz3
        clear hfr hj3 HR hy z0 z1 k0 hA
        gi_wp2
        go_wp2_with fail
        go_roundw
        case rel => exact ⟨k + 1, by go_num, by omega, by omega, by omega, HX3⟩
        case measure => simp [intOf]; omega
      · gi_wp2
        go_wp2_with fail
        go_returns
        exact ⟨⟨_, rfl⟩, _, fun k hk => .inl hk, fun k hk => hk.imp id (fun e => (HLT1.out k e).1), .inr ⟨_, hj3, trivial⟩⟩
    · obtain rfl : k = n := by omega
      have HE := Lib.hid (show (L.map (·.1)).take k = L.map (·.1) by rw [List.take_of_length_le (by rw [List.length_map]; have := HNN.out; omega)])
      have hkI : ¬ (k : Int) < (k : Int) := by omega
      go_wp2_with fail
      go_returns
      exact ⟨⟨_, rfl⟩, _, fun k hk => .inl hk, fun k hk => hk.imp id (fun e => (HLT1.out k e).1), .inl ⟨_, HX.out.1, HE.out⟩⟩
theorem rising_any (H : Nat) (w : World) : Calls Try.prog 36 #[.agg #[.pointer (some ⟨H, 0, none⟩)]] w fun e w' =>
    e = .returned (.func (.func 53) #[] #[.pointer (some ⟨w.heap.size, 0, none⟩)]) ∧ w' = w.alloc (.cells #[.pointer (some ⟨H, 0, none⟩)] 78) := by
  go_enter Try.func36, Try.ntmps36
  go_wp2
  go_ret
  exact ⟨rfl, rfl⟩
end Go.Proofs.Ythhmmjpgefinmaa
