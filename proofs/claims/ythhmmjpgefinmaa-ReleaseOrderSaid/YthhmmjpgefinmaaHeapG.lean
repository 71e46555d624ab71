/- laid together: HeapF HeapG -/
import Derived.Test.YthhmmjpgefinmaaHeapE
import Derived.Test.YthhmmjpgefinmaaGB
/- a new heap; a copy; those up to a key -/
namespace Go.Proofs.Ythhmmjpgefinmaa
set_option linter.unusedVariables false
set_option linter.unusedSimpArgs false
open Go.RowKit Go.Shelf
attribute [local go_sem] Oper.semAt_some

theorem new_any (xs : List Item) (u : Value) (w : World) (hu : Rdr w 2 u xs.length (icells xs)) (hn : xs.length ≤ 1000000) :
    Calls Try.prog 46 #[u] w fun e w' => e = .returned (.pointer (some ⟨w.heap.size, 0, none⟩)) ∧ (∃ v S, HeapAt S w' w.heap.size v (pushes [] xs) ∧ ∀ k, S k → w.heap.size ≤ k) ∧ G w w' := by
  obtain ⟨hul, up, uc, rfl, -⟩ := id hu
  have hat : HeapAt (fun k => k = w.heap.size) (w.alloc (.cells #[.slice none 0 0, .bool true] 108)) w.heap.size (.slice none 0 0) [] :=
    ⟨alloc_new _ _, World.ownsRow_nil _ _ _ _, rfl, fun g h => (by cases h), fun k hk => by subst hk; simp⟩
  have hd : 0 < xs.length → ∀ g, (Value.slice up xs.length uc).ownBlock = some g → ¬ g = w.heap.size := fun h g hg e => by have := hu.lt h (by omega) g hg; omega
  have HP := Lib.hid (push_any _ _ _ [] xs (.slice up xs.length uc) _ hat (hu.alloc _) hd (by simpa using hn))
  clear hu hul hat hd
  go_enter Try.func46, Try.ntmps46
  go_wp2_with fail
  refine HP.out.mono ?_
  rintro e w2 ⟨rfl, v', S', hat, hgr, hf⟩
  have HF : Hid ((∃ v S, HeapAt S w2 w.heap.size v (pushes [] xs) ∧ ∀ k, S k → w.heap.size ≤ k) ∧ G w w2) := Lib.hid ⟨⟨v', S', hat, fun k hk => (hgr.new k hk).elim (fun e => by omega) (fun h => by simp at h; omega)⟩,
    ((((G.refl w).alloc (.cells #[.slice none 0 0, .bool true] 108)).fr (fun k => k = w.heap.size)).trans hf (fun _ _ h => h)).g (fun i hi => by omega)⟩
  clear hat hgr hf
  go_wp2_with fail
  go_ret
  exact ⟨rfl, HF.out⟩
theorem iclone_any (l : List Item) (v : Value) (w : World) (hv : Rdr w 2 v l.length (icells l)) (hn : l.length ≤ 1000000) :
    Calls Try.prog 82 #[v] w fun e w' => ∃ u, e = .returned u ∧ w'.ownsRow w.heap.size 94 2 u l.length (icells l) ∧ G w w' := by
  obtain ⟨hl1, p, c, rfl, hl2⟩ := id hv
  have HV := Lib.hid hv
  obtain ⟨i0, hi, hz0, hz1, hz2⟩ := info_parts infoI
  have heq := Lib.run_eql_slice_nil (P := Try.prog) w 98 94 p l.length c 0 0 Try.underlying98
  have HO := Lib.hid (icells_one l)
  clear hv hl1
  cases p with
  | none =>
    have hl : l = [] := by
      cases l with
      | nil => rfl
      | cons x l =>
        obtain ⟨b, o, hp, -⟩ := hl2 (by simp)
        cases hp
    subst hl
    simp only [Option.isNone_none, List.length_nil] at heq
    clear hl2
    go_enter Try.func82, Try.ntmps82
    go_wp2_with fail
    go_ret
    exact ⟨.slice none 0 0, rfl, World.ownsRow_nil _ _ _ _, G.refl w⟩
  | some a =>
    simp only [Option.isNone_some] at heq
    clear hl2
    go_enter Try.func82, Try.ntmps82
    go_wp2_with (at_builtin; refine wpList_appendR _ rfl _ _ 98 rfl w.heap.size 94 i0 (.agg #[.int .i64 0, .int .i64 0]) 2 16 Try.underlying98 hi hz0 hz1 hz2 rfl (by decide) _ 0 [] rfl (World.ownsRow_made w #[] 0 (Nat.le_refl _) (Nat.zero_le _) rfl) (.slice (some a) l.length c) l.length (icells l) rfl (Rdr.g HV.out ((G.refl w).alloc _)) HO.out (by unfold maxLen; omega) (by omega) (by simp) ?_; intro mp mc w1 hown1 hgrow1 hat1)
    simp only [Nat.zero_add, List.nil_append] at hown1 hat1 ⊢
    have hg1 : G w w1 := ((G.refl w).alloc _).grown hgrow1 (fun k h => by have := Option.some.inj h; simp at this; omega)
    go_wp2_with fail
    go_ret
    exact ⟨_, rfl, hown1, hg1⟩
theorem copy_any (S : Nat → Prop) (B : Nat) (v : Value) (hs : List Item) (w : World) (h : HeapAt S w B v hs) (hn : hs.length ≤ 1000000) :
    Calls Try.prog 68 #[.pointer (some ⟨B, 0, none⟩)] w fun e w' => ∃ B2, e = .returned (.pointer (some ⟨B2, 0, none⟩)) ∧ (∃ v2 S2, HeapAt S2 w' B2 v2 hs ∧ ∀ k, S2 k → w.heap.size ≤ k) ∧ G w w' := by
  obtain ⟨p, c, hv⟩ := ownsRow_shape h.own
  subst hv
  obtain ⟨cb0, cb1, -, -⟩ := box2 h.box
  have HC := Lib.hid (iclone_any hs _ w (rdr_of_owns h.own) hn)
  have HM := Lib.hid (made_any cb1)
  clear h
  go_enter Try.func68, Try.ntmps68
  go_wp2_with fail
  refine HM.out.mono ?_
  rintro e w' ⟨rfl, rfl⟩
  go_wp2_with fail
  refine HC.out.mono ?_
  rintro e w2 ⟨u, rfl, hown, hg⟩
  obtain ⟨q, d, hue⟩ := ownsRow_shape hown
  subst hue
  have HOWN := Lib.hid hown
  clear hown
  go_wp2_with fail
  go_ret
  refine ⟨w2.heap.size, rfl, ⟨.slice q hs.length d, fun k => w.heap.size ≤ k ∧ k < w2.heap.size + 1, ⟨alloc_new _ _, ownsRow_mono (((G.refl w2).alloc _).ownsRow HOWN.out) (Nat.zero_le _), ⟨hg.size, by omega⟩, fun g hg' => ?_, fun k hk => by simp; exact hk.2⟩, fun k hk => hk.1⟩, hg.alloc _⟩
  have := HOWN.out.lt g hg'
  exact ⟨⟨this.1, by omega⟩, by omega⟩
theorem upto_any (B : Nat) (key : Int) (w : World) : Calls Try.prog 69 #[.pointer (some ⟨B, 0, none⟩), .int .i64 key] w fun e w' =>
    e = .returned (.func (.func 83) #[] #[.pointer (some ⟨w.heap.size, 0, none⟩), .pointer (some ⟨w.heap.size + 1, 0, none⟩)]) ∧ w' = (w.alloc (.cells #[.pointer (some ⟨B, 0, none⟩)] 76)).alloc (.cells #[.int .i64 key] 3) := by
  go_enter Try.func69, Try.ntmps69
  go_wp2
  go_ret
  exact ⟨rfl, rfl⟩
theorem popL_len (hs : List Item) : (popL hs).length = hs.length - 1 := by
  unfold popL
  split
  · rename_i h; subst h; rfl
  · rw [sink_len, List.length_take, List.length_set]; omega
/-- those up to a key, one behind the other -/
def tk (key : Int) : Nat → List Item → List Item
  | 0, _ => []
  | n + 1, hs => if hs = [] then [] else if (at' hs 0).1 ≤ key then at' hs 0 :: tk key n (popL hs) else []
def pops : Nat → List Item → List Item
  | 0, hs => hs
  | n + 1, hs => pops n (popL hs)
theorem pops_succ : ∀ (n : Nat) (hs : List Item), pops (n + 1) hs = popL (pops n hs)
  | 0, hs => rfl
  | n + 1, hs => pops_succ n (popL hs)
theorem pops_len : ∀ (n : Nat) (hs : List Item), (pops n hs).length = hs.length - n
  | 0, hs => rfl
  | n + 1, hs => by rw [pops, pops_len n, popL_len]; omega
def encI (x : Item) : Array Value := #[iv x]
end Go.Proofs.Ythhmmjpgefinmaa

/- the iterator UpTo -/
namespace Go.Proofs.Ythhmmjpgefinmaa
set_option linter.unusedVariables false
set_option linter.unusedSimpArgs false
open Go.RowKit Go.Shelf
attribute [local go_sem] Oper.semAt_some

/-- what the iterator's caller finds of the heap -/
def HeapNow (S : Nat → Prop) (B : Nat) (hs : List Item) (W : World) : Prop := ∃ v, HeapAt S W B v hs
theorem HeapNow.fr {S T : Nat → Prop} {B : Nat} {hs : List Item} {W W' : World} (h : HeapNow S B hs W) (hf : Fr T W W') (hd : ∀ k, S k → ¬ T k) : HeapNow S B hs W' := h.elim fun v h => ⟨v, h.fr hf hd⟩
/-- where the iterator stands -/
structure UpAt (S : Nat → Prop) (B : Nat) (hs : List Item) (key : Int) (b1 b2 : Nat) (W : World) (J : List Item → (Nat → Prop) → World → Prop) (X : Nat) (pre ks : List Item) (x0 x1 : Int) (It : Nat → Prop) (wr : World) : Prop where
  htk : pre ++ tk key ks.length ks = tk key hs.length hs
  hks : ks = pops pre.length hs
  at0 : at' ks 0 = (x0, x1)
  now : HeapNow S B ks wr
  box : wr.heap[X]? = some (.cells #[.int .i64 x0, .int .i64 x1] 94 (0, 0))
  sub : ∀ k, S k ∨ k = b1 ∨ k = b2 → It k
  new : ∀ k, It k → (S k ∨ k = b1 ∨ k = b2) ∨ W.heap.size ≤ k
  lt : ∀ k, It k → k < wr.heap.size
  inX : It X
  hX : W.heap.size ≤ X
  h1 : Boxed wr b1 76 (.pointer (some ⟨B, 0, none⟩))
  h2 : Boxed wr b2 3 (.int .i64 key)
  j : J pre It wr
  size : W.heap.size ≤ wr.heap.size
theorem tk_yes {key : Int} {ks : List Item} (h : isB ks = true) (hk : (at' ks 0).1 ≤ key) : tk key ks.length ks = at' ks 0 :: tk key (popL ks).length (popL ks) := by
  cases ks with
  | nil => simp [isB] at h
  | cons x l =>
    rw [popL_len]
    show tk key (l.length + 1) (x :: l) = _
    rw [tk, if_neg (by simp), if_pos hk]
    simp
theorem tk_no {key : Int} {ks : List Item} (h : isB ks = false ∨ ¬ (at' ks 0).1 ≤ key) : tk key ks.length ks = [] := by
  cases ks with
  | nil => rfl
  | cons x l =>
    rcases h with h | h
    · simp [isB] at h
    · show tk key (l.length + 1) (x :: l) = _
      rw [tk, if_neg (by simp), if_neg h]
theorem UpAt.no {S : Nat → Prop} {B : Nat} {hs : List Item} {key : Int} {b1 b2 : Nat} {W : World} {J : List Item → (Nat → Prop) → World → Prop} {X : Nat} {pre ks : List Item} {x0 x1 : Int} {It : Nat → Prop} {wr : World}
    (h : UpAt S B hs key b1 b2 W J X pre ks x0 x1 It wr) (hc : isB ks = false ∨ ¬ x0 ≤ key) : pre = tk key hs.length hs ∧ HeapNow S B (pops pre.length hs) wr := by
  have h1 := h.htk
  rw [tk_no (hc.imp id (fun e => by rw [h.at0]; exact e)), List.append_nil] at h1
  exact ⟨h1, by rw [← h.hks]; exact h.now⟩
set_option maxHeartbeats 2000000 in
theorem upto_seq (S : Nat → Prop) (B : Nat) (hs : List Item) (key : Int) (b1 b2 : Nat) (w : World) (h : HeapNow S B hs w) (h1 : Boxed w b1 76 (.pointer (some ⟨B, 0, none⟩))) (h2 : Boxed w b2 3 (.int .i64 key)) (hn : hs.length ≤ 1000000)
    (hs1 : ¬ S b1) (hs2 : ¬ S b2) :
    Seq Try.prog 83 #[.pointer (some ⟨b1, 0, none⟩), .pointer (some ⟨b2, 0, none⟩)] encI (fun _ => False) (fun k => S k ∨ k = b1 ∨ k = b2)
      (fun xs _ W => xs = tk key hs.length hs ∧ HeapNow S B (pops xs.length hs) W) (fun pre _ W => pre <+: tk key hs.length hs ∧ HeapNow S B (pops pre.length hs) W) (fun pre x => pre ++ [x] <+: tk key hs.length hs) w := by
  intro l J Jx W hW hJ hJx hY hj0
  have HY := Lib.hid hY
  have HJ := Lib.hid hJ
  have hat0 : HeapNow S B hs W := h.fr (hW.fr (fun _ => False)) (fun _ _ x => x)
  replace h1 := hW.boxed h1
  replace h2 := hW.boxed h2
  have hb1 := h1.lt
  have hb2 := h2.lt
  clear hY hJ hJx h
  show Calls Try.prog 83 #[.func (.yield l) #[] #[], .pointer (some ⟨b1, 0, none⟩), .pointer (some ⟨b2, 0, none⟩)] W _
  have c1 := h1.cell
  have c2 := h2.cell
  obtain ⟨v0, hat0⟩ := hat0
  have hlt0 := Lib.hid hat0.lt
  have HF0 := Lib.hid (first_any S B v0 hs W hat0)
  have HAT0 := Lib.hid hat0
  clear hat0
  go_enter Try.func83, Try.ntmps83
  go_wp2_with fail
  refine HF0.out.mono ?_
  rintro e w1 ⟨rfl, hg1⟩
  generalize hx0 : at' hs 0 = x
  obtain ⟨x0, x1⟩ := x
  simp only [iv]
  have HX0 := Lib.hid hx0
  have hW1 : G W w1 := hg1
  have hsz1 := hg1.size
  clear hx0 hg1
  go_wp2_with fail
  go_loopg [4, 5] (hs.length + 1) (fun g xp is wr => ∃ (X : Nat) (pre ks : List Item) (x0 x1 : Int) (It : Nat → Prop), g = ks.length + 1 ∧ xp = .pointer (some ⟨X, 0, none⟩) ∧ is = .bool (isB ks) ∧ Hid (UpAt S B hs key b1 b2 W J X pre ks x0 x1 It wr) ∧ ks.length ≤ 1000000)
  case atStart =>
    refine ⟨w1.heap.size, [], hs, x0, x1, fun k => (S k ∨ k = b1 ∨ k = b2) ∨ k = w1.heap.size, rfl, rfl, rfl, Lib.hid ?_, hn⟩
    have hgA : G W (w1.alloc (.cells #[.int .i64 x0, .int .i64 x1] 94)) := hW1.alloc _
    have hzA : (w1.alloc (.cells #[.int .i64 x0, .int .i64 x1] 94)).heap.size = w1.heap.size + 1 := by simp
    refine ⟨by simp, rfl, HX0.out, ⟨v0, HAT0.out.g hgA⟩, alloc_new _ _, fun k hk => .inl hk, fun k hk => hk.imp id (fun e => by omega), fun k hk => ?_, .inr rfl, hsz1, hgA.boxed h1, hgA.boxed h2, HJ.out [] _ _ W _ hj0 (fun k hk => .inl hk) (fun k hk => hk.imp id (fun e => by omega)) (hgA.fr _), by omega⟩
    rw [hzA]
    rcases hk with (h | h | h) | h
    · have := hlt0.out k h; omega
    · omega
    · omega
    · omega
  case round =>
    clear h1 h2 c1 c2 hj0 HF0 HAT0 HX0 hsz1 hW1
    obtain ⟨X, pre, ks, x0, x1, It, rfl, rfl, rfl, HU, hkn⟩ := hrel
    have hlS : ∀ k, S k → k < W.heap.size := hlt0.out
    have c1 := HU.out.h1.cell
    have c2 := HU.out.h2.cell
    obtain ⟨cx0, cx1, -, -⟩ := box2 HU.out.box
    have hXl := HU.out.lt X HU.out.inX
    by_cases hib : isB ks = true
    · by_cases hle : x0 ≤ key
      · rw [hib]
        obtain ⟨v, hat⟩ := HU.out.now
        have HP := Lib.hid (pop_any S B v ks wr hat hkn)
        have htk := tk_yes (key := key) hib (by rw [HU.out.at0]; exact hle)
        rw [HU.out.at0, hib] at HP
        rw [HU.out.at0] at htk
        have HPR : Hid (pre ++ [(x0, x1)] ++ tk key (popL ks).length (popL ks) = tk key hs.length hs) := Lib.hid (by
          have := HU.out.htk; rw [htk] at this; rw [← this]; simp)
        have HKS : Hid (popL ks = pops (pre ++ [(x0, x1)]).length hs) := Lib.hid (by rw [List.length_append, List.length_singleton, pops_succ, ← HU.out.hks])
        have hkl := popL_len ks
        have hk0 : 0 < ks.length := by cases ks with | nil => simp [isB] at hib | cons a l => simp
        have HKL := Lib.hid (And.intro hkl hk0)
        clear hat htk hib hkl hk0 hlS
        simp only [iv] at HP
        go_wp2_with fail
        refine HP.out.mono ?_
        rintro e w2 ⟨rfl, v2, hat2, hf2⟩
        have HS := Lib.hid hlt0.out
        have HX2 := Lib.hid ((hf2.block X hXl (fun h => by have := HS.out X h; have := HU.out.hX; omega)).trans HU.out.box)
        have hFI : Fr It wr w2 := hf2.mono (fun k hk => HU.out.sub k (.inl hk))
        have hj2 := HJ.out pre It It wr w2 HU.out.j (fun _ h => h) (fun _ h => .inl h) hFI
        have HB1 := Lib.hid (hf2.boxed HU.out.h1 hs1)
        have HB2 := Lib.hid (hf2.boxed HU.out.h2 hs2)
        have HAT2 : Hid (HeapNow S B (popL ks) w2) := Lib.hid ⟨v2, hat2⟩
        have hz2 := hf2.size
        have hszw := HU.out.size
        have HLT2 : Hid (∀ k, It k → k < w2.heap.size) := Lib.hid (fun k hk => Nat.lt_of_lt_of_le (HU.out.lt k hk) hz2)
        obtain ⟨c20, c21, -, -⟩ := box2 HX2.out
        obtain ⟨fn, tmps, assign, body, hy, hR⟩ := HY.out pre (x0, x1) It w2 HU.out.new HLT2.out (by omega) hj2 ⟨_, HPR.out⟩
        have HR := Lib.hid hR
        simp only [encI, iv] at hy
        have hXl2 : X < w2.heap.size := by omega
        clear hR hj2 hFI hat2 hf2 c1 c2 cx0 cx1 hle HP hXl
        go_upto_region 4 with fail
        refine (wpIn_wide (n := 3)).1 ?_
        gi_wp2
        refine HR.out.mono ?_
        rintro e W3 hrp
        rcases hrp.elim with ⟨rfl, hfr, hj3⟩ | ⟨rfl, hfr, hj3⟩
        · have hT : ∀ k, It k → ¬ (fun k => ¬ (It k ∨ False)) k := fun k hk h => h (.inl hk)
          have HX3 := Lib.hid ((hfr.block X hXl2 (hT X HU.out.inX)).trans HX2.out)
          have HB13 := Lib.hid (hfr.boxed HB1.out (hT b1 (HU.out.sub b1 (.inr (.inl rfl)))))
          have HB23 := Lib.hid (hfr.boxed HB2.out (hT b2 (HU.out.sub b2 (.inr (.inr rfl)))))
          have HAT3 := Lib.hid (HAT2.out.fr hfr (fun k hk => hT k (HU.out.sub k (.inl hk))))
          obtain ⟨c30, c31, -, -⟩ := box2 HX3.out
          have c1 := HB13.out.cell
          have hz3 := hfr.size
          have hXl3 : X < W3.heap.size := by omega
          have HLT3 : Hid (∀ k, It k → k < W3.heap.size) := Lib.hid (fun k hk => Nat.lt_of_lt_of_le (HLT2.out k hk) hz3)
          have HJ3 := Lib.hid hj3
          have hgA : G W3 (W3.alloc (.cells #[.int .i64 x0, .int .i64 x1] 94)) := (G.refl W3).alloc _
          have c1 := hgA.cell c1
          clear hfr hj3 hT HR hy
          gi_wp2
          go_wp2_with fail
          obtain ⟨v3, hat3⟩ := HAT3.out
          have HF := Lib.hid (first_any S B v3 (popL ks) _ (hat3.g hgA))
          generalize hy0 : at' (popL ks) 0 = y at HF
          obtain ⟨y0, y1⟩ := y
          have HY0 := Lib.hid hy0
          simp only [iv] at HF
          clear hat3 hy0
          refine HF.out.mono ?_
          rintro e w5 ⟨rfl, hg5⟩
          have hg35 : G W3 w5 := hgA.trans hg5
          have HN5 := Lib.hid ((hg5.block (k := W3.heap.size) (by simp)).trans (alloc_new W3 (.cells #[.int .i64 x0, .int .i64 x1] 94)))
          obtain ⟨d0, d1, f0, f1⟩ := box2 HN5.out
          have hz5 : W3.heap.size < w5.heap.size := by have := hg5.size; simp at this; omega
          clear hg5 hgA c1 c30 c31
          go_wp2_with fail
          have hst : Fr (fun q => q = W3.heap.size) w5 ((w5.setCell ⟨W3.heap.size, 0, none⟩ (.int .i64 y0)).setCell ⟨W3.heap.size, 1, none⟩ (.int .i64 y1)) := ((Fr.refl (fun q => q = W3.heap.size) w5).setCell (p := ⟨W3.heap.size, 0, none⟩) (.inl rfl) _).setCell (p := ⟨W3.heap.size, 1, none⟩) (.inl rfl) _
          have hfin : G W3 ((w5.setCell ⟨W3.heap.size, 0, none⟩ (.int .i64 y0)).setCell ⟨W3.heap.size, 1, none⟩ (.int .i64 y1)) := (hg35.setCell (Nat.le_refl _) _).setCell (Nat.le_refl _) _
          have HU6 : Hid (UpAt S B hs key b1 b2 W J W3.heap.size (pre ++ [(x0, x1)]) (popL ks) y0 y1 (fun k => It k ∨ k = W3.heap.size) ((w5.setCell ⟨W3.heap.size, 0, none⟩ (.int .i64 y0)).setCell ⟨W3.heap.size, 1, none⟩ (.int .i64 y1))) := Lib.hid
            ⟨HPR.out, HKS.out, HY0.out, HAT3.out.fr (hfin.fr (fun _ => False)) (fun _ _ x => x), set2 HN5.out, fun k hk => .inl (HU.out.sub k hk), fun k hk => hk.elim (HU.out.new k) (fun e => .inr (by omega)),
              fun k hk => Nat.lt_of_lt_of_le (hk.elim (fun h => Nat.lt_trans (HLT3.out k h) hz5) (fun e => by omega)) hst.size, .inr rfl, by omega, hfin.boxed HB13.out, hfin.boxed HB23.out,
              HJ.out _ It _ W3 _ HJ3.out (fun k hk => .inl hk) (fun k hk => hk.imp id (fun e => by omega)) (hfin.fr _), Nat.le_trans (by omega) hfin.size⟩
          go_roundg ((popL ks).length + 1)
          case rel => exact ⟨W3.heap.size, pre ++ [(x0, x1)], popL ks, y0, y1, _, rfl, rfl, rfl, HU6, by have := HKL.out; omega⟩
          all_goals (have := HKL.out; omega)
        · gi_wp2
          go_wp2_with fail
          go_returns
          have hT : ∀ k, It k → ¬ (fun k => ¬ (It k ∨ False)) k := fun k hk h => h (.inl hk)
          have HAT3 := Lib.hid (HAT2.out.fr hfr (fun k hk => hT k (HU.out.sub k (.inl hk))))
          exact ⟨⟨_, rfl⟩, It, HU.out.sub, HU.out.new, .inr ⟨_, hj3, ⟨_, HPR.out⟩, by rw [← HKS.out]; exact HAT3.out⟩⟩
      · have hle' : decide (x0 ≤ key) = false := by simpa using hle
        have HE := Lib.hid (HU.out.no (.inr hle))
        rw [hib]
        clear hib hle hlS
        go_wp2_with fail
        go_returns
        exact ⟨⟨_, rfl⟩, It, HU.out.sub, HU.out.new, .inl ⟨pre, HU.out.j, HE.out⟩⟩
    · have hib' : isB ks = false := by simpa using hib
      have HE := Lib.hid (HU.out.no (.inl hib'))
      rw [hib']
      clear hib hib' hlS
      go_wp2_with fail
      go_returns
      exact ⟨⟨_, rfl⟩, It, HU.out.sub, HU.out.new, .inl ⟨pre, HU.out.j, HE.out⟩⟩
end Go.Proofs.Ythhmmjpgefinmaa
