/- edges: bytes as an edge: what both tell; the program's Parse begins -/
import Derived.Test.YtfdajignnnhnmaaEdgeI
import Derived.Deep.AppendLies
namespace Go.Proofs.Ytfdajignnnhnmaa
set_option linter.unusedVariables false
set_option linter.unusedSimpArgs false
open Go.RowKit Go.Shelf
attribute [local go_sem] Oper.semAt_some

theorem run_store_func {P : Program} (w : World) (a : Addr) (m : Mode) (f : Fn) (ts xs : Array Value) : (store a (.func f ts xs) m).run P w = stored P w a (.func f ts xs) m := run_store P w a _ m rfl
attribute [local go_sem] run_store_func
theorem wordP_size (s : St) : (wordP s).1.size ≤ 255 := by
  have h := takeP_len (headN (takeP 1 s).1) (takeP 1 s).2
  have h2 := headN_lt (takeP 1 s).1
  show ((takeP (headN (takeP 1 s).1) (takeP 1 s).2).1.toArray).size ≤ 255
  rw [List.size_toArray, h]; exact h2
theorem numP_bd (s : St) : 0 ≤ (numP s).1 ∧ (numP s).1 < 281474976710656 := by
  have h := foldB_bd (takeP 6 s).1 0 (by omega)
  rw [takeP_len] at h
  have e : (256 : Int) ^ 6 = 281474976710656 := by decide
  rw [e] at h
  exact ⟨h.1, by have := h.2; show foldB (takeP 6 s).1 0 < _; omega⟩
/-- a prop is read -/
def propP (s : St) : Prp × St :=
  if headN (takeP 1 (wordP s).2).1 = 1 then (((wordP s).1, 1, (numP (takeP 1 (wordP s).2).2).1 - 1099511627776, ⟨#[]⟩), (numP (takeP 1 (wordP s).2).2).2)
  else (((wordP s).1, (headN (takeP 1 (wordP s).2).1 : Int), 0, (wordP (takeP 1 (wordP s).2).2).1), (wordP (takeP 1 (wordP s).2).2).2)
def rdP : Nat → List Prp × St → List Prp × St
  | 0, x => x
  | n + 1, x => rdP n (x.1 ++ [(propP x.2).1], (propP x.2).2)
def edgeP (l : List UInt8) : (ByteArray × ByteArray × ByteArray × Int × List Prp) × St :=
  let a := wordP (false, l)
  let b := wordP a.2
  let c := wordP b.2
  let d := numP c.2
  let m := takeP 1 d.2
  let r := rdP (headN m.1) ([], m.2)
  ((a.1, b.1, c.1, d.1, r.1), r.2)
def PSmall (ps : List Prp) : Prop := ∀ p ∈ ps, p.1.size ≤ 255 ∧ p.2.2.2.size ≤ 255
theorem propP_small (s : St) : (propP s).1.1.size ≤ 255 ∧ (propP s).1.2.2.2.size ≤ 255 := by
  unfold propP; split
  · exact ⟨wordP_size _, by show (0 : Nat) ≤ 255; omega⟩
  · exact ⟨wordP_size _, wordP_size _⟩
theorem PSmall.snoc {ps : List Prp} (h : PSmall ps) (s : St) : PSmall (ps ++ [(propP s).1]) := by
  intro p hp
  rcases List.mem_append.1 hp with hp | hp
  · exact h p hp
  · obtain rfl := List.mem_singleton.1 hp
    exact propP_small s
theorem PSmall.sz {ps : List Prp} (h : PSmall ps) : PSz ps := fun p hp => by have := h p hp; unfold maxLen; omega
theorem rdP_small : ∀ (n : Nat) (x : List Prp × St), PSmall x.1 → PSmall (rdP n x).1
  | 0, x, h => h
  | n + 1, x, h => rdP_small n _ (h.snoc x.2)
theorem rdP_len : ∀ (n : Nat) (x : List Prp × St), (rdP n x).1.length = x.1.length + n
  | 0, x => rfl
  | n + 1, x => by rw [rdP, rdP_len n]; simp; omega
theorem infoP : (Try.prog.info? 56).map (fun i => (i.zero, i.size, i.bytes)) = some (some (.agg #[.string ⟨#[]⟩, .int .i64 0, .int .i64 0, .string ⟨#[]⟩]), 4, 48) := by kernel_rfl
/-- an edge in a block is written over -/
theorem set5 {w W : World} {R : Nat} {ty : TypeId} {a0 a1 a2 a3 a4 : Value} (hg : G w W) (hR : w.heap.size ≤ R) (h : W.heap[R]? = some (.cells #[a0, a1, a2, a3, a4] ty (0, 0))) (v0 v1 v2 v3 v4 : Value) :
    G w (((((W.setCell ⟨R, 0, none⟩ v0).setCell ⟨R, 1, none⟩ v1).setCell ⟨R, 2, none⟩ v2).setCell ⟨R, 3, none⟩ v3).setCell ⟨R, 4, none⟩ v4) ∧ (((((W.setCell ⟨R, 0, none⟩ v0).setCell ⟨R, 1, none⟩ v1).setCell ⟨R, 2, none⟩ v2).setCell ⟨R, 3, none⟩ v3).setCell ⟨R, 4, none⟩ v4).heap[R]? = some (.cells #[v0, v1, v2, v3, v4] ty (0, 0)) :=
  ⟨((((hg.setCell hR _).setCell hR _).setCell hR _).setCell hR _).setCell hR _, heap_setCell_at _ R 4 _ _ _ _ (heap_setCell_at _ R 3 _ _ _ _ (heap_setCell_at _ R 2 _ _ _ _ (heap_setCell_at _ R 1 _ _ _ _ (heap_setCell_at _ R 0 _ _ _ _ h))))⟩
theorem cells5 {W : World} {R : Nat} {ty : TypeId} {v0 v1 v2 v3 v4 : Value} (h : W.heap[R]? = some (.cells #[v0, v1, v2, v3, v4] ty (0, 0))) :
    W.cell? ⟨R, 0, none⟩ = some v0 ∧ W.cell? ⟨R, 1, none⟩ = some v1 ∧ W.cell? ⟨R, 2, none⟩ = some v2 ∧ W.cell? ⟨R, 3, none⟩ = some v3 ∧ W.cell? ⟨R, 4, none⟩ = some v4 := by
  unfold World.cell?; rw [h]; exact ⟨rfl, rfl, rfl, rfl, rfl⟩
def zeroE : Edg := ⟨⟨#[]⟩, ⟨#[]⟩, ⟨#[]⟩, 0, .slice none 0 0, []⟩
theorem zeroE_at (W : World) : EdgAt W zeroE := ⟨Rdr.nil _ _ _ _, by show (0 : Nat) ≤ _; omega, (fun p hp => by cases hp), Nat.zero_le _, Nat.zero_le _, Nat.zero_le _⟩
/-- what Parse tells: from, to, label, time, props -/
abbrev Out := ByteArray × ByteArray × ByteArray × Int × List Prp
def outE (E : Edg) : Out := (E.f, E.t, E.l, E.tm, E.ps)
theorem g_of_fr {S : Nat → Prop} {w a b : World} (hg : G w a) (hf : Fr S a b) (hS : ∀ k, S k → w.heap.size ≤ k) : G w b := ((hg.fr (fun q => w.heap.size ≤ q)).trans hf (fun q _ h => hS q h)).g (fun _ h => h)
/-- what Parse tells -/
def okP (l : List UInt8) : Bool := doneP (edgeP l).2 && decide (checkP (edgeP l).1.1 (edgeP l).1.2.1 (edgeP l).1.2.2.1 (edgeP l).1.2.2.2.1 (edgeP l).1.2.2.2.2 = 0)

def outP (l : List UInt8) : Out := if okP l = true then (edgeP l).1 else (⟨#[]⟩, ⟨#[]⟩, ⟨#[]⟩, 0, [])
def errP (l : List UInt8) : Int := if okP l = true then 0 else 4
theorem reading_any (p : Option Addr) (m c : Nat) (w : World) :
    Calls Try.prog 38 #[.slice p m c] w fun e w' => e = .returned (.tuple #[.func (.func 71) #[] #[.pointer (some ⟨w.heap.size + 1, 0, none⟩), .pointer (some ⟨w.heap.size, 0, none⟩)], .func (.func 72) #[] #[.pointer (some ⟨w.heap.size + 1, 0, none⟩), .pointer (some ⟨w.heap.size, 0, none⟩)]]) ∧
      w' = (w.alloc (.cells #[.slice p m c] 22)).alloc (.cells #[.bool false] 4) := by
  go_enter Try.func38, Try.ntmps38
  go_wp2_with fail
  refine bodyPost_ret (v := .tuple #[.func (.func 71) #[] #[.pointer (some ⟨w.heap.size + 1, 0, none⟩), .pointer (some ⟨w.heap.size, 0, none⟩)], .func (.func 72) #[] #[.pointer (some ⟨w.heap.size + 1, 0, none⟩), .pointer (some ⟨w.heap.size, 0, none⟩)]]) ?_ rfl ⟨rfl, rfl⟩
  simp [results, Try.results38, go_sem]
theorem rs_new {p : Option Addr} {c : Nat} {l : List UInt8} {w : World} (h : Rdr w 1 (.slice p l.length c) l.length (bys l)) (hc : l.length ≤ c) (hc2 : c ≤ 9223372036854775807) :
    Rs ((w.alloc (.cells #[.slice p l.length c] 22)).alloc (.cells #[.bool false] 4)) w.heap.size (w.heap.size + 1) (false, l) := by
  refine ⟨by omega, p, c, ?_, ?_, (h.alloc _).alloc _, hc, hc2, fun h0 g hg => ?_⟩
  · exact boxed_at w [_, _] 0 _ _ rfl
  · exact boxed_at w [_, _] 1 _ _ rfl
  · have := h.lt h0 (by omega) g hg
    omega
theorem hl_class {P : Program} {md : Region.Mode} {ops : Array Oper} {Q : Exit → Act → World → Prop} {S S' : World → Prop} {t : Nat} (h : ∀ w, S' w → S w) : ∀ (fuel : Nat) (listed : Array Bool) (a : Act) (w : World), hl P md ops Q S' t fuel listed a w → hl P md ops Q S t fuel listed a w
  | 0, _, _, _, h1 => h1
  | fuel + 1, _, _, _, h1 => ⟨h1.1, fun i hi => opR_mono (fun _ w' h2 => ⟨fun e => h w' (h2.1 e), hl_class h fuel _ _ _ h2.2⟩) (h1.2 i hi)⟩
/-- a prop in a block is written over -/
theorem set4 {W : World} {R : Nat} {ty : TypeId} {a0 a1 a2 a3 : Value} (h : W.heap[R]? = some (.cells #[a0, a1, a2, a3] ty (0, 0))) (v0 v1 v2 v3 : Value) :
    ((((W.setCell ⟨R, 0, none⟩ v0).setCell ⟨R, 1, none⟩ v1).setCell ⟨R, 2, none⟩ v2).setCell ⟨R, 3, none⟩ v3).heap[R]? = some (.cells #[v0, v1, v2, v3] ty (0, 0)) :=
  heap_setCell_at _ R 3 _ _ _ _ (heap_setCell_at _ R 2 _ _ _ _ (heap_setCell_at _ R 1 _ _ _ _ (heap_setCell_at _ R 0 _ _ _ _ h)))
theorem fr4 {S : Nat → Prop} {w W : World} {R : Nat} (hf : Fr S w W) (hR : w.heap.size ≤ R) (v0 v1 v2 v3 : Value) :
    Fr S w ((((W.setCell ⟨R, 0, none⟩ v0).setCell ⟨R, 1, none⟩ v1).setCell ⟨R, 2, none⟩ v2).setCell ⟨R, 3, none⟩ v3) :=
  (((hf.setCell (p := ⟨R, 0, none⟩) (.inr hR) v0).setCell (p := ⟨R, 1, none⟩) (.inr hR) v1).setCell (p := ⟨R, 2, none⟩) (.inr hR) v2).setCell (p := ⟨R, 3, none⟩) (.inr hR) v3
theorem cells4 {W : World} {R : Nat} {ty : TypeId} {v0 v1 v2 v3 : Value} (h : W.heap[R]? = some (.cells #[v0, v1, v2, v3] ty (0, 0))) :
    W.cell? ⟨R, 0, none⟩ = some v0 ∧ W.cell? ⟨R, 1, none⟩ = some v1 ∧ W.cell? ⟨R, 2, none⟩ = some v2 ∧ W.cell? ⟨R, 3, none⟩ = some v3 := by
  unfold World.cell?; rw [h]; exact ⟨rfl, rfl, rfl, rfl⟩
theorem rs4 {W : World} {R bb bd : Nat} {s : St} (h : Rs W bb bd s) (hb : bb < R) (hd : bd < R) (v0 v1 v2 v3 : Value) :
    Rs ((((W.setCell ⟨R, 0, none⟩ v0).setCell ⟨R, 1, none⟩ v1).setCell ⟨R, 2, none⟩ v2).setCell ⟨R, 3, none⟩ v3) bb bd s := by
  obtain ⟨hne, p, c, b1, b2, b3, b4, b5, b6⟩ := h
  have hf : Fr (fun q => q = R) W ((((W.setCell ⟨R, 0, none⟩ v0).setCell ⟨R, 1, none⟩ v1).setCell ⟨R, 2, none⟩ v2).setCell ⟨R, 3, none⟩ v3) := ((((Fr.refl (fun q => q = R) W).setCell (p := ⟨R, 0, none⟩) (.inl rfl) v0).setCell (p := ⟨R, 1, none⟩) (.inl rfl) v1).setCell (p := ⟨R, 2, none⟩) (.inl rfl) v2).setCell (p := ⟨R, 3, none⟩) (.inl rfl) v3
  exact ⟨hne, p, c, hf.boxed b1 (fun e => by omega), hf.boxed b2 (fun e => by omega), b3.frz hf (fun h0 g hg e => by have := b6 h0 g hg; omega), b4, b5, b6⟩
theorem Rs.fr {W W' : World} {bb bd : Nat} {s : St} {S : Nat → Prop} (h : Rs W bb bd s) (hf : Fr S W W') (hS : ∀ g, S g → bb < g ∧ bd < g) : Rs W' bb bd s := by
  obtain ⟨hne, p, c, b1, b2, b3, b4, b5, b6⟩ := h
  exact ⟨hne, p, c, hf.boxed b1 (fun e => by have := hS _ e; omega), hf.boxed b2 (fun e => by have := hS _ e; omega), b3.frz hf (fun h0 g hg e => by have := b6 h0 g hg; have := hS _ e; omega), b4, b5, b6⟩
theorem heap_lt {W : World} {k : Nat} {o : Obj} (h : W.heap[k]? = some o) : k < W.heap.size := (Array.getElem?_eq_some_iff.1 h).1
set_option maxRecDepth 10000 in
set_option maxHeartbeats 4000000 in
theorem parse_any (p : Option Addr) (c : Nat) (l : List UInt8) (w : World) (h : Rdr w 1 (.slice p l.length c) l.length (bys l)) (hc : l.length ≤ c) (hc2 : c ≤ 9223372036854775807) :
    Calls Try.prog 11 #[.slice p l.length c] w fun e w' => ∃ E : Edg, e = .returned (.tuple #[ev E, .int .i64 (errP l)]) ∧ outE E = outP l ∧ EdgAt w' E ∧ G w w' := by
  obtain ⟨j0, hj, hy0, hy1, hy2⟩ := info_parts infoP
  have hgE : G w (w.alloc (.cells #[.string ⟨#[]⟩, .string ⟨#[]⟩, .string ⟨#[]⟩, .int .i64 0, .slice none 0 0] 27)) := (G.refl w).alloc _
  have HRD := Lib.hid (reading_any p l.length c (w.alloc (.cells #[.string ⟨#[]⟩, .string ⟨#[]⟩, .string ⟨#[]⟩, .int .i64 0, .slice none 0 0] 27)))
  have hrs := rs_new (h.g hgE) hc hc2
  have hE := boxed_at w
  have hb0 := alloc_new w (.cells #[.string ⟨#[]⟩, .string ⟨#[]⟩, .string ⟨#[]⟩, .int .i64 0, .slice none 0 0] 27)
  obtain ⟨B, hB⟩ : ∃ B, B = w.heap.size := ⟨_, rfl⟩
  rw [World.size_alloc] at HRD hrs
  obtain ⟨m, hm⟩ : ∃ m, m = l.length := ⟨_, rfl⟩
  rw [← hm] at HRD hrs ⊢
  have HM := Lib.hid hm
  have HB := Lib.hid hB
  have HRS := Lib.hid hrs
  have HB0 := Lib.hid hb0
  clear h hc hc2 hE hrs hb0 hm hB
  go_enter Try.func11, Try.ntmps11
  go_wp2_with fail
  refine HRD.out.mono ?_
  rintro e W1 ⟨rfl, hW1⟩
  have hg1 : G w W1 := by rw [hW1]; exact (hgE.alloc _).alloc _
  have hgEW : G (w.alloc (.cells #[.string ⟨#[]⟩, .string ⟨#[]⟩, .string ⟨#[]⟩, .int .i64 0, .slice none 0 0] 27)) W1 := by rw [hW1]; exact ((G.refl _).alloc _).alloc _
  have hR := (hgEW.block (by rw [World.size_alloc]; omega)).trans HB0.out
  rw [← hW1] at HRS
  have hz1 : W1.heap.size = w.heap.size + 3 := by rw [hW1]; simp
  clear HRD hW1 hgE HB0 hgEW
  -- the box of take
  have hg2 : G W1 (W1.alloc (.cells #[.func (.func 71) #[] #[.pointer (some ⟨w.heap.size + 1 + 1, 0, none⟩), .pointer (some ⟨w.heap.size + 1, 0, none⟩)]] 60)) := (G.refl W1).alloc _
  have h4 := boxed_at W1 [.cells #[.func (.func 71) #[] #[.pointer (some ⟨w.heap.size + 1 + 1, 0, none⟩), .pointer (some ⟨w.heap.size + 1, 0, none⟩)]] 60] 0 _ _ rfl
  have HW2 := Lib.hid (word_any (W1.heap.size + 0) (w.heap.size + 1) (w.heap.size + 1 + 1) (false, l) _ (HRS.out.g hg2) h4 (by omega) (by omega))
  simp only [Nat.add_zero] at HW2 h4
  have hgA := hg1.trans hg2
  have HZ1 := Lib.hid hz1
  have hR2 := (hg2.block (show w.heap.size < W1.heap.size by omega)).trans hR
  have H4 := Lib.hid h4
  have HR2 := Lib.hid hR2
  clear HRS hg2 hR h4 hR2 hg1 hz1
  go_wp2_with fail
  refine HW2.out.mono ?_
  rintro e W2 ⟨rfl, hrs2, hf2⟩
  obtain ⟨F, hF⟩ : ∃ F : Value, F = .func (.func 71) #[] #[.pointer (some ⟨w.heap.size + 1 + 1, 0, none⟩), .pointer (some ⟨w.heap.size + 1, 0, none⟩)] := ⟨_, rfl⟩
  have hn1 : W1.heap.size ≠ w.heap.size + 1 := by have := HZ1.out; omega
  have hn2 : W1.heap.size ≠ w.heap.size + 1 + 1 := by have := HZ1.out; omega
  have hnS : ¬ (fun k => k = w.heap.size + 1 ∨ k = w.heap.size + 1 + 1) W1.heap.size := fun e => e.elim hn1 hn2
  have hnR : ¬ (fun k => k = w.heap.size + 1 ∨ k = w.heap.size + 1 + 1) w.heap.size := fun e => by rcases e with e | e <;> omega
  have g2 := hf2.boxed H4.out hnS
  have r2 := (hf2.block _ (by rw [World.size_alloc]; have := HZ1.out; omega) hnR).trans HR2.out
  have HW3 := Lib.hid (word_any _ _ _ _ W2 hrs2 g2 hn1 hn2)
  have G2 := Lib.hid g2
  have R2 := Lib.hid r2
  have z2 := hf2.size
  rw [World.size_alloc] at z2
  have Z2 := Lib.hid z2
  clear HW2 H4 HR2 hrs2 g2 r2 z2
  go_wp2_with fail
  refine HW3.out.mono ?_
  rintro e W3 ⟨rfl, hrs3, hf3⟩
  have g3 := hf3.boxed G2.out hnS
  have r3 := (hf3.block _ (by have := Z2.out; have := HZ1.out; omega) hnR).trans R2.out
  have HW4 := Lib.hid (word_any _ _ _ _ W3 hrs3 g3 hn1 hn2)
  have G3 := Lib.hid g3
  have R3 := Lib.hid r3
  have z3 := hf3.size
  have Z3 := Lib.hid z3
  clear HW3 G2 R2 hrs3 g3 r3 z3
  go_wp2_with fail
  refine HW4.out.mono ?_
  rintro e W4 ⟨rfl, hrs4, hf4⟩
  have g4 := hf4.boxed G3.out hnS
  have r4 := (hf4.block _ (by have := Z2.out; have := Z3.out; have := HZ1.out; omega) hnR).trans R3.out
  have HW5 := Lib.hid (num_any _ _ _ _ W4 hrs4 g4)
  have G4 := Lib.hid g4
  have R4 := Lib.hid r4
  have z4 := hf4.size
  have Z4 := Lib.hid z4
  clear HW4 G3 R3 hrs4 g4 r4 z4
  go_wp2_with fail
  refine HW5.out.mono ?_
  rintro e W5 ⟨rfl, hrs5, hf5⟩
  have g5 := hf5.boxed G4.out hnS
  have r5 := (hf5.block _ (by have := Z2.out; have := Z3.out; have := Z4.out; have := HZ1.out; omega) hnR).trans R4.out
  have z5 := hf5.size
  have HG := Lib.hid (show G w W5 from g_of_fr (S := fun k => k = w.heap.size + 1 ∨ k = w.heap.size + 1 + 1) hgA (((hf2.trans hf3 (fun _ _ h => h)).trans hf4 (fun _ _ h => h)).trans hf5 (fun _ _ h => h)) (fun k hk => by rcases hk with hk | hk <;> omega))
  obtain ⟨f, hef⟩ : ∃ f, f = (wordP (false, l)).1 := ⟨_, rfl⟩
  obtain ⟨t, het⟩ : ∃ t, t = (wordP (wordP (false, l)).2).1 := ⟨_, rfl⟩
  obtain ⟨lb, hel⟩ : ∃ lb, lb = (wordP (wordP (wordP (false, l)).2).2).1 := ⟨_, rfl⟩
  obtain ⟨tm, hem⟩ : ∃ tm, tm = (numP (wordP (wordP (wordP (false, l)).2).2).2).1 := ⟨_, rfl⟩
  obtain ⟨s5, hes⟩ : ∃ s, s = (numP (wordP (wordP (wordP (false, l)).2).2).2).2 := ⟨_, rfl⟩
  obtain ⟨s6, he6⟩ : ∃ s, s = (takeP 1 s5).2 := ⟨_, rfl⟩
  obtain ⟨m0, he0⟩ : ∃ m0, m0 = headN (takeP 1 s5).1 := ⟨_, rfl⟩
  have hm0 : m0 ≤ 255 := by rw [he0]; exact headN_lt _
  have HE := Lib.hid (show edgeP l = ((f, t, lb, tm, (rdP m0 ([], s6)).1), (rdP m0 ([], s6)).2) by rw [he6, he0, hef, het, hel, hem, hes]; rfl)
  have HSZ := Lib.hid (show f.size ≤ 255 ∧ t.size ≤ 255 ∧ lb.size ≤ 255 by rw [hef, het, hel]; exact ⟨wordP_size _, wordP_size _, wordP_size _⟩)
  have htm := numP_bd (wordP (wordP (wordP (false, l)).2).2).2
  rw [← hem] at htm
  rw [← hef, ← het, ← hel, ← hem]
  rw [← hes] at hrs5
  have hg56 : G W5 (W5.alloc (.cells #[.string f, .string t, .string lb, .int .i64 tm, .slice none 0 0] 27)) := (G.refl W5).alloc _
  have HTK := Lib.hid (take_any 1 _ _ s5 _ (hrs5.g hg56) (by omega))
  rw [← he6] at HTK
  have HL := Lib.hid (bys_head (l := (takeP 1 s5).1) (by rw [takeP_len]; omega))
  rw [← he0] at HL
  have g6 := hg56.boxed g5
  have r6 := (hg56.block (by have := Z2.out; have := Z3.out; have := Z4.out; have := HZ1.out; omega)).trans r5
  have e6 := alloc_new W5 (.cells #[.string f, .string t, .string lb, .int .i64 tm, .slice none 0 0] 27)
  have c4 := g6.cell
  have hzz : W1.heap.size + 1 ≤ W5.heap.size := by have := Z2.out; have := Z3.out; have := Z4.out; omega
  have HG6 := Lib.hid (HG.out.trans hg56)
  have G6 := Lib.hid g6
  have R6 := Lib.hid r6
  have E6 := Lib.hid e6
  clear hef het hel hem hes he6 he0 HW5 HG G4 R4 hf2 hf3 hf4 hf5 hrs5 g5 r5 z5 Z2 Z3 Z4 hg56 g6 r6 e6 hgA HM
  go_wp2_with fail
  refine HTK.out.mono ?_
  rintro e W6 ⟨u, rfl, hu, hrs6, hf6⟩
  obtain ⟨-, up, uc, rfl, -⟩ := id hu
  obtain ⟨b, o, rfl, hcell⟩ := hu.one (by omega)
  have hx := hcell 0 _ HL.out
  rw [Nat.add_zero] at hx
  have hnE : ¬ (fun k => k = w.heap.size + 1 ∨ k = w.heap.size + 1 + 1) W5.heap.size := fun e => by rcases e with e | e <;> (have := HZ1.out; omega)
  have g7 := hf6.boxed G6.out hnS
  have r7 := (hf6.block _ (by rw [World.size_alloc]; have := HZ1.out; omega) hnR).trans R6.out
  have e7 := (hf6.block _ (by rw [World.size_alloc]; omega) hnE).trans E6.out
  have hg7 := g_of_fr HG6.out hf6 (fun k hk => by rcases hk with hk | hk <;> omega)
  have hz7 := hf6.size
  rw [World.size_alloc] at hz7
  clear HTK HL hu hcell HG6 G6 R6 E6 c4 hf6
  go_wp2_with fail
  go_loopw [30] (fun i wr => ∃ (k : Nat) (ps : List Prp) (st : St) (pp : Option Addr) (pc : Nat), k ≤ m0 ∧ i = .int .u8 k ∧ ps.length = k ∧ wr.heap[W5.heap.size]? = some (.cells #[.string f, .string t, .string lb, .int .i64 tm, .slice pp k pc] 27 (0, 0)) ∧ wr.ownsRow (W5.heap.size + 1) 56 4 (.slice pp k pc) k (pcells ps) ∧ PSmall ps ∧
    Hid (rdP m0 ([], s6) = rdP (m0 - k) (ps, st)) ∧ Rs wr (w.heap.size + 1) (w.heap.size + 1 + 1) st ∧ Boxed wr W1.heap.size 60 (.func (.func 71) #[] #[.pointer (some ⟨w.heap.size + 1 + 1, 0, none⟩), .pointer (some ⟨w.heap.size + 1, 0, none⟩)]) ∧
    wr.heap[w.heap.size]? = some (.cells #[.string ⟨#[]⟩, .string ⟨#[]⟩, .string ⟨#[]⟩, .int .i64 0, .slice none 0 0] 27 (0, 0)) ∧ G w wr ∧ W5.heap.size + 1 ≤ wr.heap.size) (fun i _ => m0 - (intOf i).toNat)
  case atStart => exact ⟨0, [], s6, none, 0, by omega, rfl, rfl, e7, World.ownsRow_nil _ _ _ _, (fun p hp => by cases hp), Lib.hid rfl, hrs6, g7, r7, hg7, hz7⟩
  case round =>
    clear e7 hrs6 g7 r7 hg7 hz7
    obtain ⟨k, ps, st, pp, pc, hk, rfl, hpl, he, hown, hsm, HRP, hrs, hbx, hr, hg, hz⟩ := hrel
    by_cases hlt : k < m0
    · have hltI : (k : Int) < (m0 : Int) := by omega
      have HPL := Lib.hid hpl
      have HKL := Lib.hid hlt
      have HOWN := Lib.hid hown
      have HE0 := Lib.hid he
      have HRr := Lib.hid hr
      obtain ⟨key, hkey⟩ : ∃ key, key = (wordP st).1 := ⟨_, rfl⟩
      obtain ⟨s1, hs1⟩ : ∃ s1, s1 = (wordP st).2 := ⟨_, rfl⟩
      obtain ⟨kd, hkd⟩ : ∃ kd, kd = headN (takeP 1 s1).1 := ⟨_, rfl⟩
      obtain ⟨s3, hs3⟩ : ∃ s3, s3 = (takeP 1 s1).2 := ⟨_, rfl⟩
      have HKEY := Lib.hid hkey
      have HS1 := Lib.hid hs1
      have HKD := Lib.hid hkd
      have HS3 := Lib.hid hs3
      have HKW := Lib.hid (show IntKind.i64.wrap (kd : Int) = kd from IntWalk.i64_in _ (by have := headN_lt (takeP 1 s1).1; omega))
      have hkd255 : kd ≤ 255 := by rw [hkd]; exact headN_lt _
      have HL1 := Lib.hid (bys_head (l := (takeP 1 s1).1) (by rw [takeP_len]; omega))
      rw [← hkd] at HL1
      clear hpl hlt hown he hr hkey hs1 hkd hs3
      go_upto_region 7 with fail
      generalize hA0 : ({ tmps := _, defers := _ } : Act) = a0
      have HA0 := Lib.hid hA0
      obtain ⟨Q0, hQ0⟩ : ∃ Q0 : Exit → Act → World → Prop, Q0 = (fun e a' w' => ∃ (A : Nat) (y32 y33 y34 y35 y36 y37 y38 y39 y40 : Value), e = .normal ∧ a' = (((((((((a0.put (some 9) (.pointer (some ⟨A, 0, none⟩))).put (some 32) y32).put (some 33) y33).put (some 34) y34).put (some 35) y35).put (some 36) y36).put (some 37) y37).put (some 38) y38).put (some 39) y39).put (some 40) y40 ∧
        w'.heap[A]? = some (.cells #[.string key, .int .i64 kd, .int .i64 0, .string ⟨#[]⟩] 56 (0, 0)) ∧ Rs w' (w.heap.size + 1) (w.heap.size + 1 + 1) s3 ∧ Fr (fun k => k = w.heap.size + 1 ∨ k = w.heap.size + 1 + 1) wr w' ∧ wr.heap.size ≤ A) := ⟨_, rfl⟩
      have HQ0 := Lib.hid hQ0
      rw [← hA0]
      clear hQ0 hA0
      obtain ⟨WD, hWD⟩ : ∃ WD : World, WD = wr.drew := ⟨_, rfl⟩
      have bxWD : Boxed WD W1.heap.size 60 (.func (.func 71) #[] #[.pointer (some ⟨w.heap.size + 1 + 1, 0, none⟩), .pointer (some ⟨w.heap.size + 1, 0, none⟩)]) := by rw [hWD]; exact (G.refl wr).drew.boxed hbx
      have rsWD : Rs WD (w.heap.size + 1) (w.heap.size + 1 + 1) st := by rw [hWD]; exact hrs.g (G.refl wr).drew
      have frWD : Fr (fun k => k = w.heap.size + 1 ∨ k = w.heap.size + 1 + 1) wr WD := by rw [hWD]; exact (Fr.refl _ wr).drew
      refine wp_mono (Q := Q0) ?_ ?_
      · refine region_hl (fun w' => w'.cell? ⟨W1.heap.size, 0, none⟩ = some (.func (.func 71) #[] #[.pointer (some ⟨w.heap.size + 1 + 1, 0, none⟩), .pointer (some ⟨w.heap.size + 1, 0, none⟩)])) 10 11 (by kernel_rfl) rfl ?_
        simp only [List.replicate_succ, List.replicate_zero]
        rw [← hWD]
        clear hWD hbx hrs
        have hs0 := bxWD.cell
        refine hl_take_np 0 (by kernel_rfl) (by kernel_rfl) rfl (by kernel_rfl) hs0 (v := ?_) ?_ ?_
        rotate_left
        · (rintro x hx; go_simp; try rfl)
        simp only [Act.put, List.setIfInBounds_toArray, List.set_cons_zero, List.set_cons_succ]
        refine hl_take_np 2 (by kernel_rfl) (by kernel_rfl) rfl (by kernel_rfl) hs0 (v := ?_) ?_ ?_
        rotate_left
        · (rintro x hx; go_simp; try rfl)
        simp only [Act.put, List.setIfInBounds_toArray, List.set_cons_zero, List.set_cons_succ]
        refine hl_twoW 1 9 (by kernel_rfl) rfl rfl (by kernel_rfl) (by kernel_rfl) ?_ ?_
        · intro K hK
          go_simp
          refine (word_any _ _ _ st WD rsWD bxWD hn1 hn2).mono ?_
          rintro e X1 ⟨rfl, rsX1, fx⟩
          rw [← HKEY.out]
          rw [← HS1.out] at rsX1
          have bxX1 := fx.boxed bxWD hnS
          have frX1 := frWD.trans fx (fun _ _ h => h)
          have hs1 := bxX1.cell
          refine hK _ _ (fun _ => hs1) ?_
          clear hK K fx rsWD bxWD frWD
          simp only [Act.put, List.setIfInBounds_toArray, List.set_cons_zero, List.set_cons_succ]
          refine hl_twoW 3 9 (by kernel_rfl) rfl rfl (by kernel_rfl) (by kernel_rfl) ?_ ?_
          · intro K hK
            go_simp
            refine (take_any 1 _ _ s1 X1 rsX1 (by omega)).mono ?_
            rintro e X2 ⟨u3, rfl, hu3, rsX2, fx⟩
            obtain ⟨-, up3, uc3, rfl, -⟩ := id hu3
            obtain ⟨b3, o3, rfl, hcell3⟩ := hu3.one (by omega)
            have hx3 := hcell3 0 _ HL1.out
            rw [Nat.add_zero] at hx3
            rw [← HS3.out] at rsX2
            have bxX2 := fx.boxed bxX1 hnS
            have frX2 := frX1.trans fx (fun _ _ h => h)
            have hs2 := bxX2.cell
            refine hK _ _ (fun _ => hs2) ?_
            clear hK K fx rsX1 bxX1 frX1 hcell3 hu3
            simp only [Act.put, List.setIfInBounds_toArray, List.set_cons_zero, List.set_cons_succ]
            refine hl_class (S' := fun w' => G X2 w') (fun w' h => h.cell hs2) _ _ _ _ ?_
            refine hl_take_np 4 (by kernel_rfl) (by kernel_rfl) rfl (by kernel_rfl) (G.refl X2) (v := ?_) ?_ ?_
            rotate_left
            · (rintro x hx; have k1 := hx.cell hx3; clear hx; go_simp; try rfl)
            simp only [Act.put, List.setIfInBounds_toArray, List.set_cons_zero, List.set_cons_succ]
            refine hl_take_np 5 (by kernel_rfl) (by kernel_rfl) rfl (by kernel_rfl) (G.refl X2) (v := ?_) ?_ ?_
            rotate_left
            · (rintro x hx; have k1 := hx.cell hx3; clear hx; go_simp; try rfl)
            simp only [Act.put, List.setIfInBounds_toArray, List.set_cons_zero, List.set_cons_succ]
            refine hl_take_np 6 (by kernel_rfl) (by kernel_rfl) rfl (by kernel_rfl) (G.refl X2) (v := ?_) ?_ ?_
            rotate_left
            · (rintro x hx; have k1 := hx.cell hx3; clear hx; go_simp; try rfl)
            simp only [Act.put, List.setIfInBounds_toArray, List.set_cons_zero, List.set_cons_succ]
            refine hl_take_np 7 (by kernel_rfl) (by kernel_rfl) rfl (by kernel_rfl) (G.refl X2) (v := ?_) ?_ ?_
            rotate_left
            · (rintro x hx; have k1 := hx.cell hx3; clear hx; go_simp; try rfl)
            simp only [Act.put, List.setIfInBounds_toArray, List.set_cons_zero, List.set_cons_succ]
            refine hl_take_np 8 (by kernel_rfl) (by kernel_rfl) rfl (by kernel_rfl) (G.refl X2) (v := ?_) ?_ ?_
            rotate_left
            · (rintro x hx; have k1 := hx.cell hx3; clear hx; go_simp; try rfl)
            simp only [Act.put, List.setIfInBounds_toArray, List.set_cons_zero, List.set_cons_succ]
            refine hl_stepW 9 (by kernel_rfl) rfl (by kernel_rfl) ?_
            intro K hK
            go_simp
            obtain ⟨X3, hX3⟩ : ∃ Y : World, Y = X2.alloc (.cells #[.string ⟨#[]⟩, .int .i64 0, .int .i64 0, .string ⟨#[]⟩] 56) := ⟨_, rfl⟩
            have gx : G X2 X3 := by rw [hX3]; exact (G.refl X2).alloc _
            have paX3 : X3.heap[X2.heap.size]? = some (.cells #[.string ⟨#[]⟩, .int .i64 0, .int .i64 0, .string ⟨#[]⟩] 56 (0, 0)) := by rw [hX3]; exact alloc_new _ _
            have rsX3 := rsX2.g gx
            have bxX3 := gx.boxed bxX2
            have frX3 := frX2.trans (gx.fr (fun _ => False)) (fun _ _ h => h.elim)
            have hs3 := bxX3.cell
            have hA : wr.heap.size ≤ X2.heap.size := frX2.size
            rw [← hX3]
            obtain ⟨A, hAA⟩ : ∃ A, A = X2.heap.size := ⟨_, rfl⟩
            rw [← hAA] at paX3 hA ⊢
            have hAz : w.heap.size + 1 + 1 < A := by have := HZ1.out; omega
            refine hK _ _ (fun _ => gx) ?_
            clear hK K hX3 hAA rsX2 bxX2 frX2
            simp only [Act.put, List.setIfInBounds_toArray, List.set_cons_zero, List.set_cons_succ]
            refine hl_stepW 10 (by kernel_rfl) rfl (by kernel_rfl) ?_
            intro K hK
            have pf := paX3
            have y0 : X3.frozen? ⟨A, 0, none⟩ = false := by unfold World.frozen?; rw [pf]; simp
            have y1 : X3.frozen? ⟨A, 1, none⟩ = false := by unfold World.frozen?; rw [pf]; simp
            have y2 : X3.frozen? ⟨A, 2, none⟩ = false := by unfold World.frozen?; rw [pf]; simp
            have y3 : X3.frozen? ⟨A, 3, none⟩ = false := by unfold World.frozen?; rw [pf]; simp
            obtain ⟨x0, x1, x2, x3⟩ := cells4 pf
            go_simp
            refine hK _ _ (fun e => absurd rfl e) ?_
            clear hK K y0 y1 y2 y3 x0 x1 x2 x3
            simp only [Act.put, List.setIfInBounds_toArray, List.set_cons_zero, List.set_cons_succ]
            refine hl_done (by kernel_rfl) ?_ _
            refine NoPanic.normal ?_
            rw [HQ0.out]
            rw [HKW.out]
            refine ⟨A, ?_⟩
            iterate 9 apply Exists.intro
            refine ⟨rfl, ?_, ?_, ?_, ?_, hA⟩
            · rw [← HA0.out]; simp only [Act.put, List.setIfInBounds_toArray, List.set_cons_zero, List.set_cons_succ]; rfl
            · exact set4 pf _ _ _ _
            · exact rs4 rsX3 (by omega) (by omega) _ _ _ _
            · exact fr4 frX3 hA _ _ _ _
          · intro K hK
            go_simp
            obtain ⟨X2, hX2⟩ : ∃ Y : World, Y = X1.alloc (.cells #[.string ⟨#[]⟩, .int .i64 0, .int .i64 0, .string ⟨#[]⟩] 56) := ⟨_, rfl⟩
            have gx : G X1 X2 := by rw [hX2]; exact (G.refl X1).alloc _
            have paX2 : X2.heap[X1.heap.size]? = some (.cells #[.string ⟨#[]⟩, .int .i64 0, .int .i64 0, .string ⟨#[]⟩] 56 (0, 0)) := by rw [hX2]; exact alloc_new _ _
            have rsX2 := rsX1.g gx
            have bxX2 := gx.boxed bxX1
            have frX2 := frX1.trans (gx.fr (fun _ => False)) (fun _ _ h => h.elim)
            have hs2 := bxX2.cell
            have hA : wr.heap.size ≤ X1.heap.size := frX1.size
            rw [← hX2]
            obtain ⟨A, hAA⟩ : ∃ A, A = X1.heap.size := ⟨_, rfl⟩
            rw [← hAA] at paX2 hA ⊢
            have hAz : w.heap.size + 1 + 1 < A := by have := HZ1.out; omega
            refine hK _ _ (fun _ => hs2) ?_
            clear hK K hX2 hAA rsX1 bxX1 frX1 gx
            simp only [Act.put, List.setIfInBounds_toArray, List.set_cons_zero, List.set_cons_succ]
            refine hl_stepW 3 (by kernel_rfl) rfl (by kernel_rfl) ?_
            intro K hK
            go_simp
            refine (take_any 1 _ _ s1 X2 rsX2 (by omega)).mono ?_
            rintro e X3 ⟨u3, rfl, hu3, rsX3, fx⟩
            obtain ⟨-, up3, uc3, rfl, -⟩ := id hu3
            obtain ⟨b3, o3, rfl, hcell3⟩ := hu3.one (by omega)
            have hx3 := hcell3 0 _ HL1.out
            rw [Nat.add_zero] at hx3
            rw [← HS3.out] at rsX3
            have bxX3 := fx.boxed bxX2 hnS
            have frX3 := frX2.trans fx (fun _ _ h => h)
            have paX3 := (fx.block _ (heap_lt paX2) (fun e => by rcases e with e | e <;> omega)).trans paX2
            have hs3 := bxX3.cell
            refine hK _ _ (fun _ => hs3) ?_
            clear hK K fx rsX2 bxX2 frX2 hcell3 hu3 paX2
            simp only [Act.put, List.setIfInBounds_toArray, List.set_cons_zero, List.set_cons_succ]
            refine hl_class (S' := fun w' => G X3 w') (fun w' h => h.cell hs3) _ _ _ _ ?_
            refine hl_take_np 4 (by kernel_rfl) (by kernel_rfl) rfl (by kernel_rfl) (G.refl X3) (v := ?_) ?_ ?_
            rotate_left
            · (rintro x hx; have k1 := hx.cell hx3; clear hx; go_simp; try rfl)
            simp only [Act.put, List.setIfInBounds_toArray, List.set_cons_zero, List.set_cons_succ]
            refine hl_take_np 5 (by kernel_rfl) (by kernel_rfl) rfl (by kernel_rfl) (G.refl X3) (v := ?_) ?_ ?_
            rotate_left
            · (rintro x hx; have k1 := hx.cell hx3; clear hx; go_simp; try rfl)
            simp only [Act.put, List.setIfInBounds_toArray, List.set_cons_zero, List.set_cons_succ]
            refine hl_take_np 6 (by kernel_rfl) (by kernel_rfl) rfl (by kernel_rfl) (G.refl X3) (v := ?_) ?_ ?_
            rotate_left
            · (rintro x hx; have k1 := hx.cell hx3; clear hx; go_simp; try rfl)
            simp only [Act.put, List.setIfInBounds_toArray, List.set_cons_zero, List.set_cons_succ]
            refine hl_take_np 7 (by kernel_rfl) (by kernel_rfl) rfl (by kernel_rfl) (G.refl X3) (v := ?_) ?_ ?_
            rotate_left
            · (rintro x hx; have k1 := hx.cell hx3; clear hx; go_simp; try rfl)
            simp only [Act.put, List.setIfInBounds_toArray, List.set_cons_zero, List.set_cons_succ]
            refine hl_take_np 8 (by kernel_rfl) (by kernel_rfl) rfl (by kernel_rfl) (G.refl X3) (v := ?_) ?_ ?_
            rotate_left
            · (rintro x hx; have k1 := hx.cell hx3; clear hx; go_simp; try rfl)
            simp only [Act.put, List.setIfInBounds_toArray, List.set_cons_zero, List.set_cons_succ]
            refine hl_stepW 10 (by kernel_rfl) rfl (by kernel_rfl) ?_
            intro K hK
            have pf := paX3
            have y0 : X3.frozen? ⟨A, 0, none⟩ = false := by unfold World.frozen?; rw [pf]; simp
            have y1 : X3.frozen? ⟨A, 1, none⟩ = false := by unfold World.frozen?; rw [pf]; simp
            have y2 : X3.frozen? ⟨A, 2, none⟩ = false := by unfold World.frozen?; rw [pf]; simp
            have y3 : X3.frozen? ⟨A, 3, none⟩ = false := by unfold World.frozen?; rw [pf]; simp
            obtain ⟨x0, x1, x2, x3⟩ := cells4 pf
            go_simp
            refine hK _ _ (fun e => absurd rfl e) ?_
            clear hK K y0 y1 y2 y3 x0 x1 x2 x3
            simp only [Act.put, List.setIfInBounds_toArray, List.set_cons_zero, List.set_cons_succ]
            refine hl_done (by kernel_rfl) ?_ _
            refine NoPanic.normal ?_
            rw [HQ0.out]
            rw [HKW.out]
            refine ⟨A, ?_⟩
            iterate 9 apply Exists.intro
            refine ⟨rfl, ?_, ?_, ?_, ?_, hA⟩
            · rw [← HA0.out]; simp only [Act.put, List.setIfInBounds_toArray, List.set_cons_zero, List.set_cons_succ]; rfl
            · exact set4 pf _ _ _ _
            · exact rs4 rsX3 (by omega) (by omega) _ _ _ _
            · exact fr4 frX3 hA _ _ _ _
        · intro K hK
          go_simp
          obtain ⟨X1, hX1⟩ : ∃ Y : World, Y = WD.alloc (.cells #[.string ⟨#[]⟩, .int .i64 0, .int .i64 0, .string ⟨#[]⟩] 56) := ⟨_, rfl⟩
          have gx : G WD X1 := by rw [hX1]; exact (G.refl WD).alloc _
          have paX1 : X1.heap[WD.heap.size]? = some (.cells #[.string ⟨#[]⟩, .int .i64 0, .int .i64 0, .string ⟨#[]⟩] 56 (0, 0)) := by rw [hX1]; exact alloc_new _ _
          have rsX1 := rsWD.g gx
          have bxX1 := gx.boxed bxWD
          have frX1 := frWD.trans (gx.fr (fun _ => False)) (fun _ _ h => h.elim)
          have hs1 := bxX1.cell
          have hA : wr.heap.size ≤ WD.heap.size := frWD.size
          rw [← hX1]
          obtain ⟨A, hAA⟩ : ∃ A, A = WD.heap.size := ⟨_, rfl⟩
          rw [← hAA] at paX1 hA ⊢
          have hAz : w.heap.size + 1 + 1 < A := by have := HZ1.out; omega
          refine hK _ _ (fun _ => hs1) ?_
          clear hK K hX1 hAA rsWD bxWD frWD gx
          simp only [Act.put, List.setIfInBounds_toArray, List.set_cons_zero, List.set_cons_succ]
          refine hl_stepW 1 (by kernel_rfl) rfl (by kernel_rfl) ?_
          intro K hK
          go_simp
          refine (word_any _ _ _ st X1 rsX1 bxX1 hn1 hn2).mono ?_
          rintro e X2 ⟨rfl, rsX2, fx⟩
          rw [← HKEY.out]
          rw [← HS1.out] at rsX2
          have bxX2 := fx.boxed bxX1 hnS
          have frX2 := frX1.trans fx (fun _ _ h => h)
          have paX2 := (fx.block _ (heap_lt paX1) (fun e => by rcases e with e | e <;> omega)).trans paX1
          have hs2 := bxX2.cell
          refine hK _ _ (fun _ => hs2) ?_
          clear hK K fx rsX1 bxX1 frX1 paX1
          simp only [Act.put, List.setIfInBounds_toArray, List.set_cons_zero, List.set_cons_succ]
          refine hl_stepW 3 (by kernel_rfl) rfl (by kernel_rfl) ?_
          intro K hK
          go_simp
          refine (take_any 1 _ _ s1 X2 rsX2 (by omega)).mono ?_
          rintro e X3 ⟨u3, rfl, hu3, rsX3, fx⟩
          obtain ⟨-, up3, uc3, rfl, -⟩ := id hu3
          obtain ⟨b3, o3, rfl, hcell3⟩ := hu3.one (by omega)
          have hx3 := hcell3 0 _ HL1.out
          rw [Nat.add_zero] at hx3
          rw [← HS3.out] at rsX3
          have bxX3 := fx.boxed bxX2 hnS
          have frX3 := frX2.trans fx (fun _ _ h => h)
          have paX3 := (fx.block _ (heap_lt paX2) (fun e => by rcases e with e | e <;> omega)).trans paX2
          have hs3 := bxX3.cell
          refine hK _ _ (fun _ => hs3) ?_
          clear hK K fx rsX2 bxX2 frX2 hcell3 hu3 paX2
          simp only [Act.put, List.setIfInBounds_toArray, List.set_cons_zero, List.set_cons_succ]
          refine hl_class (S' := fun w' => G X3 w') (fun w' h => h.cell hs3) _ _ _ _ ?_
          refine hl_take_np 4 (by kernel_rfl) (by kernel_rfl) rfl (by kernel_rfl) (G.refl X3) (v := ?_) ?_ ?_
          rotate_left
          · (rintro x hx; have k1 := hx.cell hx3; clear hx; go_simp; try rfl)
          simp only [Act.put, List.setIfInBounds_toArray, List.set_cons_zero, List.set_cons_succ]
          refine hl_take_np 5 (by kernel_rfl) (by kernel_rfl) rfl (by kernel_rfl) (G.refl X3) (v := ?_) ?_ ?_
          rotate_left
          · (rintro x hx; have k1 := hx.cell hx3; clear hx; go_simp; try rfl)
          simp only [Act.put, List.setIfInBounds_toArray, List.set_cons_zero, List.set_cons_succ]
          refine hl_take_np 6 (by kernel_rfl) (by kernel_rfl) rfl (by kernel_rfl) (G.refl X3) (v := ?_) ?_ ?_
          rotate_left
          · (rintro x hx; have k1 := hx.cell hx3; clear hx; go_simp; try rfl)
          simp only [Act.put, List.setIfInBounds_toArray, List.set_cons_zero, List.set_cons_succ]
          refine hl_take_np 7 (by kernel_rfl) (by kernel_rfl) rfl (by kernel_rfl) (G.refl X3) (v := ?_) ?_ ?_
          rotate_left
          · (rintro x hx; have k1 := hx.cell hx3; clear hx; go_simp; try rfl)
          simp only [Act.put, List.setIfInBounds_toArray, List.set_cons_zero, List.set_cons_succ]
          refine hl_take_np 8 (by kernel_rfl) (by kernel_rfl) rfl (by kernel_rfl) (G.refl X3) (v := ?_) ?_ ?_
          rotate_left
          · (rintro x hx; have k1 := hx.cell hx3; clear hx; go_simp; try rfl)
          simp only [Act.put, List.setIfInBounds_toArray, List.set_cons_zero, List.set_cons_succ]
          refine hl_stepW 10 (by kernel_rfl) rfl (by kernel_rfl) ?_
          intro K hK
          have pf := paX3
          have y0 : X3.frozen? ⟨A, 0, none⟩ = false := by unfold World.frozen?; rw [pf]; simp
          have y1 : X3.frozen? ⟨A, 1, none⟩ = false := by unfold World.frozen?; rw [pf]; simp
          have y2 : X3.frozen? ⟨A, 2, none⟩ = false := by unfold World.frozen?; rw [pf]; simp
          have y3 : X3.frozen? ⟨A, 3, none⟩ = false := by unfold World.frozen?; rw [pf]; simp
          obtain ⟨x0, x1, x2, x3⟩ := cells4 pf
          go_simp
          refine hK _ _ (fun e => absurd rfl e) ?_
          clear hK K y0 y1 y2 y3 x0 x1 x2 x3
          simp only [Act.put, List.setIfInBounds_toArray, List.set_cons_zero, List.set_cons_succ]
          refine hl_done (by kernel_rfl) ?_ _
          refine NoPanic.normal ?_
          rw [HQ0.out]
          rw [HKW.out]
          refine ⟨A, ?_⟩
          iterate 9 apply Exists.intro
          refine ⟨rfl, ?_, ?_, ?_, ?_, hA⟩
          · rw [← HA0.out]; simp only [Act.put, List.setIfInBounds_toArray, List.set_cons_zero, List.set_cons_succ]; rfl
          · exact set4 pf _ _ _ _
          · exact rs4 rsX3 (by omega) (by omega) _ _ _ _
          · exact fr4 frX3 hA _ _ _ _
      · rw [HQ0.out]
        rintro e a1 w7 ⟨A, y32, y33, y34, y35, y36, y37, y38, y39, y40, rfl, ha1, pA, rs7, f7, hA⟩
        rw [ha1, ← HA0.out]
        simp only [Act.put, List.setIfInBounds_toArray, List.set_cons_zero, List.set_cons_succ]
        clear HQ0 Q0 HA0 a0 a1 ha1 rsWD bxWD frWD hWD WD
        have HA := Lib.hid hA
        have hA2 : w.heap.size + 1 + 1 < A := by have := HZ1.out; omega
        have hAE : A ≠ W5.heap.size := by omega
        have hown7 := f7.ownsRow HOWN.out (fun g hg e => by have := (HOWN.out.lt g hg).1; have := HZ1.out; rcases e with e | e <;> omega)
        have he7 := (f7.block _ (heap_lt HE0.out) hnE).trans HE0.out
        have bx7 := f7.boxed hbx hnS
        have hr7 := (f7.block _ (heap_lt HRr.out) hnR).trans HRr.out
        have hg7 := g_of_fr hg f7 (fun k hk => by rcases hk with hk | hk <;> omega)
        have hz7 := Nat.le_trans hz f7.size
        obtain ⟨q0, q1, q2, q3⟩ := cells4 pA
        have HG7 := Lib.hid (And.intro hg7 (And.intro hr7 (And.intro he7 (And.intro hown7 (And.intro bx7 pA)))))
        have HLT := Lib.hid (show ∀ g, (Value.slice pp k pc).ownBlock = some g → g < wr.heap.size from fun g hg => (HOWN.out.lt g hg).2)
        clear hg hg7 hr7 he7 hown7 bx7 f7 hbx hrs HE0 HOWN HRr
        by_cases hkd1 : kd = 1
        · have hkb : ((kd : Int) == 1) = true := by simp [hkd1]
          have hpp : propP st = ((key, (kd : Int), (numP s3).1 - 1099511627776, ⟨#[]⟩), (numP s3).2) := by
            rw [propP, ← HS1.out, ← HKEY.out, ← HKD.out, ← HS3.out, if_pos hkd1, hkd1]; rfl
          obtain ⟨nm, hnm⟩ : ∃ nm, nm = (numP s3).1 := ⟨_, rfl⟩
          have hnb := numP_bd s3
          rw [← hnm] at hpp hnb
          obtain ⟨s4, hs4⟩ : ∃ s4, s4 = (numP s3).2 := ⟨_, rfl⟩
          rw [← hs4] at hpp
          have HPP := Lib.hid hpp
          have HCALL := Lib.hid (num_any _ _ _ s3 w7 rs7 HG7.out.2.2.2.2.1)
          rw [← hnm, ← hs4] at HCALL
          clear hkd1 hpp hnm hs4 rs7
          go_wp2_with fail
          refine HCALL.out.mono ?_
          rintro e w8 ⟨rfl, rs8, f8⟩
          have pA8 := (f8.block _ (heap_lt HG7.out.2.2.2.2.2) (fun e => by rcases e with e | e <;> omega)).trans HG7.out.2.2.2.2.2
          have x2 := (cells4 pA8).2.2.1
          have y2 : w8.frozen? ⟨A, 2, none⟩ = false := by unfold World.frozen?; rw [pA8]; simp
          go_upto_region 11 with fail
          clear q0 q1 q2 q3 x2 y2
          obtain ⟨hg7, hr7, he7, hown7, bx7, -⟩ := HG7.out
          obtain ⟨w9, hw9⟩ : ∃ X : World, X = w8.setCell ⟨A, 2, none⟩ (.int .i64 (nm - 1099511627776)) := ⟨_, rfl⟩
          rw [← hw9]
          have pA9 : w9.heap[A]? = some (.cells #[.string key, .int .i64 kd, .int .i64 (nm - 1099511627776), .string ⟨#[]⟩] 56 (0, 0)) := by rw [hw9]; exact heap_setCell_at _ A 2 _ _ _ _ pA8
          have fA : Fr (fun q => q = A) w8 w9 := by rw [hw9]; exact (Fr.refl (fun q => q = A) w8).setCell (p := ⟨A, 2, none⟩) (.inl rfl) _
          have rs9 := rs8.fr fA (fun g e => by subst e; omega)
          have f9 : Fr (fun k => k = w.heap.size + 1 ∨ k = w.heap.size + 1 + 1 ∨ k = A) w7 w9 := (f8.mono (fun i h => by rcases h with h | h; exact .inl h; exact .inr (.inl h))).trans fA (fun _ _ h => .inr (.inr h))
          have he9 := (f9.block _ (heap_lt he7) (fun e => by rcases e with e | e | e <;> omega)).trans he7
          have hr9 := (f9.block _ (heap_lt hr7) (fun e => by rcases e with e | e | e <;> omega)).trans hr7
          have bx9 := f9.boxed bx7 (fun e => by rcases e with e | e | e <;> (have := HZ1.out; have := HA.out; omega))
          have hown9 := f9.ownsRow hown7 (fun g hg e => by have := (hown7.lt g hg).1; have := HZ1.out; have := HA.out; have := HLT.out g hg; rcases e with e | e | e <;> omega)
          have hg9 := g_of_fr hg7 f9 (fun k hk => by rcases hk with hk | hk | hk <;> omega)
          have hz9 := Nat.le_trans hz7 f9.size
          obtain ⟨z0, z1, z2, z3⟩ := cells4 pA9
          obtain ⟨-, -, -, -, e4⟩ := cells5 he9
          have HPV := Lib.hid (And.intro he9 (And.intro hr9 (And.intro bx9 (And.intro hown9 hg9))))
          have HRS9 := Lib.hid rs9
          clear hg7 hr7 he7 hown7 bx7 HG7 hw9 pA9 fA rs8 rs9 f8 f9 pA8 he9 hr9 bx9 hown9 hg9 HCALL
          go_wp2_with (at_builtin; refine wpList_append2 _ rfl _ _ 25 rfl (W5.heap.size + 1) 56 j0 (.agg #[.string ⟨#[]⟩, .int .i64 0, .int .i64 0, .string ⟨#[]⟩]) 4 48 Try.underlying25 hj hy0 hy1 hy2 rfl (by decide) (.slice pp k pc) k (pcells ps) rfl (((G.refl w9).alloc _).ownsRow HPV.out.2.2.2.1) ⟨w9.heap.size, 0, none⟩ 1 1 (#[.string key, .int .i64 kd, .int .i64 (nm - 1099511627776), .string ⟨#[]⟩]).toList rfl rfl (World.news_of_block (cs := #[.string key, .int .i64 kd, .int .i64 (nm - 1099511627776), .string ⟨#[]⟩]) (t := 56) (fr := (0, 0)) (alloc_new w9 _)) (by simp [Value.oneCell']) (by unfold maxLen; omega) (by omega) (by simp; omega) ?_; intro v2 w10 hown10 hgrow10 hnil10 hat10; obtain ⟨pp2, pc2, rfl⟩ := ownsRow_shape hown10; have hf10 : Fr (fun q => (Value.slice pp k pc).ownBlock = some q) w9 w10 := (((G.refl w9).alloc _).fr _).trans (grownBy_fr hgrow10) (fun _ _ h => h); have hn10 : ¬ (Value.slice pp k pc).ownBlock = some W5.heap.size := (fun e => by have := (HPV.out.2.2.2.1.lt _ e).1; omega); have he10 := (hf10.block _ (heap_lt HPV.out.1) hn10).trans HPV.out.1; obtain ⟨-, -, -, -, t4⟩ := cells5 he10; have u4 : w10.frozen? ⟨W5.heap.size, 4, none⟩ = false := (by unfold World.frozen?; rw [he10]; simp); have H10 := Lib.hid (And.intro hown10 (And.intro hf10 (And.intro he10 hat10))); clear hown10 hf10 hgrow10 hnil10 hat10 he10 hn10)
          obtain ⟨hown10, hf10, he10, hat10⟩ := H10.out
          obtain ⟨w11, hw11⟩ : ∃ X : World, X = w10.setCell ⟨W5.heap.size, 4, none⟩ (.slice pp2 (k + 1) pc2) := ⟨_, rfl⟩
          rw [← hw11]
          have fE : Fr (fun q => q = W5.heap.size) w10 w11 := by rw [hw11]; exact (Fr.refl (fun q => q = W5.heap.size) w10).setCell (p := ⟨W5.heap.size, 4, none⟩) (.inl rfl) _
          have he11 : w11.heap[W5.heap.size]? = some (.cells #[.string f, .string t, .string lb, .int .i64 tm, .slice pp2 (k + 1) pc2] 27 (0, 0)) := by rw [hw11]; exact heap_setCell_at _ _ 4 _ _ _ _ he10
          obtain ⟨he9, hr9, bx9, hown9, hg9⟩ := HPV.out
          have hlo : ∀ g, (Value.slice pp k pc).ownBlock = some g → w.heap.size + 4 ≤ g := fun g hg => by have := (hown9.lt g hg).1; have := HZ1.out; omega
          have hE5 : w.heap.size + 4 ≤ W5.heap.size := by have := HZ1.out; omega
          have rs11 := (HRS9.out.fr hf10 (fun g e => by have := hlo g e; omega)).fr fE (fun g e => by subst e; omega)
          have f11 : Fr (fun q => (Value.slice pp k pc).ownBlock = some q ∨ q = W5.heap.size) w9 w11 := (hf10.mono (fun _ h => .inl h)).trans fE (fun _ _ h => .inr h)
          have hn11 : ∀ q, q < w.heap.size + 4 → ¬ ((Value.slice pp k pc).ownBlock = some q ∨ q = W5.heap.size) := fun q hq e => by rcases e with e | e; have := hlo q e; omega; omega
          have bx11 := f11.boxed bx9 (hn11 _ (by have := HZ1.out; omega))
          have hr11 := (f11.block _ (heap_lt hr9) (hn11 _ (by omega))).trans hr9
          have hg11 := g_of_fr hg9 f11 (fun q e => by rcases e with e | e; have := hlo q e; omega; omega)
          have hown11 := fE.ownsRow hown10 (fun g hg e => by have := (hown10.lt g hg).1; omega)
          have hz11 := Nat.le_trans hz9 f11.size
          have hps : (propP st).1 = (key, (kd : Int), nm - 1099511627776, ⟨#[]⟩) := by rw [HPP.out]
          have hrp : rdP m0 ([], s6) = rdP (m0 - (k + 1)) (ps ++ [(key, (kd : Int), nm - 1099511627776, ⟨#[]⟩)], s4) := by
            rw [HRP.out, show m0 - k = (m0 - (k + 1)) + 1 from by have := HKL.out; omega, rdP, HPP.out]
          have hsm1 : PSmall (ps ++ [(key, (kd : Int), nm - 1099511627776, ⟨#[]⟩)]) := by rw [← hps]; exact hsm.snoc st
          have hkm : k + 1 ≤ m0 := HKL.out
          have hown12 : w11.ownsRow (W5.heap.size + 1) 56 4 (.slice pp2 (k + 1) pc2) (k + 1) (pcells (ps ++ [(key, (kd : Int), nm - 1099511627776, ⟨#[]⟩)])) := by rw [pcells_app]; exact hown11
          clear H10 hown10 hf10 he10 hat10 hw11 fE he9 hr9 bx9 hown9 hg9 HPV HRS9 f11 hown11 hps
          go_roundw
          case rel => exact ⟨k + 1, ps ++ [(key, (kd : Int), nm - 1099511627776, ⟨#[]⟩)], s4, pp2, pc2, hkm, by go_num, by simp [HPL.out], he11, hown12, hsm1, Lib.hid hrp, rs11, bx11, hr11, hg11, hz11⟩
          case measure => simp [intOf]; omega
        · have hkb : ((kd : Int) == 1) = false := by simpa using (by omega : ¬ (kd : Int) = 1)
          have hpp : propP st = ((key, (kd : Int), 0, (wordP s3).1), (wordP s3).2) := by
            rw [propP, ← HS1.out, ← HKEY.out, ← HKD.out, ← HS3.out, if_neg hkd1]
          obtain ⟨tx, htx⟩ : ∃ tx, tx = (wordP s3).1 := ⟨_, rfl⟩
          obtain ⟨s4, hs4⟩ : ∃ s4, s4 = (wordP s3).2 := ⟨_, rfl⟩
          rw [← htx, ← hs4] at hpp
          have HPP := Lib.hid hpp
          have HCALL := Lib.hid (word_any _ _ _ s3 w7 rs7 HG7.out.2.2.2.2.1 hn1 hn2)
          rw [← htx, ← hs4] at HCALL
          clear hkd1 hpp htx hs4 rs7
          go_wp2_with fail
          refine HCALL.out.mono ?_
          rintro e w8 ⟨rfl, rs8, f8⟩
          have pA8 := (f8.block _ (heap_lt HG7.out.2.2.2.2.2) (fun e => by rcases e with e | e <;> omega)).trans HG7.out.2.2.2.2.2
          have x3 := (cells4 pA8).2.2.2
          have y3 : w8.frozen? ⟨A, 3, none⟩ = false := by unfold World.frozen?; rw [pA8]; simp
          go_upto_region 11 with fail
          clear q0 q1 q2 q3 x3 y3
          obtain ⟨hg7, hr7, he7, hown7, bx7, -⟩ := HG7.out
          obtain ⟨w9, hw9⟩ : ∃ X : World, X = w8.setCell ⟨A, 3, none⟩ (.string tx) := ⟨_, rfl⟩
          rw [← hw9]
          have pA9 : w9.heap[A]? = some (.cells #[.string key, .int .i64 kd, .int .i64 0, .string tx] 56 (0, 0)) := by rw [hw9]; exact heap_setCell_at _ A 3 _ _ _ _ pA8
          have fA : Fr (fun q => q = A) w8 w9 := by rw [hw9]; exact (Fr.refl (fun q => q = A) w8).setCell (p := ⟨A, 3, none⟩) (.inl rfl) _
          have rs9 := rs8.fr fA (fun g e => by subst e; omega)
          have f9 : Fr (fun k => k = w.heap.size + 1 ∨ k = w.heap.size + 1 + 1 ∨ k = A) w7 w9 := (f8.mono (fun i h => by rcases h with h | h; exact .inl h; exact .inr (.inl h))).trans fA (fun _ _ h => .inr (.inr h))
          have he9 := (f9.block _ (heap_lt he7) (fun e => by rcases e with e | e | e <;> omega)).trans he7
          have hr9 := (f9.block _ (heap_lt hr7) (fun e => by rcases e with e | e | e <;> omega)).trans hr7
          have bx9 := f9.boxed bx7 (fun e => by rcases e with e | e | e <;> (have := HZ1.out; have := HA.out; omega))
          have hown9 := f9.ownsRow hown7 (fun g hg e => by have := (hown7.lt g hg).1; have := HZ1.out; have := HA.out; have := HLT.out g hg; rcases e with e | e | e <;> omega)
          have hg9 := g_of_fr hg7 f9 (fun k hk => by rcases hk with hk | hk | hk <;> omega)
          have hz9 := Nat.le_trans hz7 f9.size
          obtain ⟨z0, z1, z2, z3⟩ := cells4 pA9
          obtain ⟨-, -, -, -, e4⟩ := cells5 he9
          have HPV := Lib.hid (And.intro he9 (And.intro hr9 (And.intro bx9 (And.intro hown9 hg9))))
          have HRS9 := Lib.hid rs9
          clear hg7 hr7 he7 hown7 bx7 HG7 hw9 pA9 fA rs8 rs9 f8 f9 pA8 he9 hr9 bx9 hown9 hg9 HCALL
          go_wp2_with (at_builtin; refine wpList_append2 _ rfl _ _ 25 rfl (W5.heap.size + 1) 56 j0 (.agg #[.string ⟨#[]⟩, .int .i64 0, .int .i64 0, .string ⟨#[]⟩]) 4 48 Try.underlying25 hj hy0 hy1 hy2 rfl (by decide) (.slice pp k pc) k (pcells ps) rfl (((G.refl w9).alloc _).ownsRow HPV.out.2.2.2.1) ⟨w9.heap.size, 0, none⟩ 1 1 (#[.string key, .int .i64 kd, .int .i64 0, .string tx]).toList rfl rfl (World.news_of_block (cs := #[.string key, .int .i64 kd, .int .i64 0, .string tx]) (t := 56) (fr := (0, 0)) (alloc_new w9 _)) (by simp [Value.oneCell']) (by unfold maxLen; omega) (by omega) (by simp; omega) ?_; intro v2 w10 hown10 hgrow10 hnil10 hat10; obtain ⟨pp2, pc2, rfl⟩ := ownsRow_shape hown10; have hf10 : Fr (fun q => (Value.slice pp k pc).ownBlock = some q) w9 w10 := (((G.refl w9).alloc _).fr _).trans (grownBy_fr hgrow10) (fun _ _ h => h); have hn10 : ¬ (Value.slice pp k pc).ownBlock = some W5.heap.size := (fun e => by have := (HPV.out.2.2.2.1.lt _ e).1; omega); have he10 := (hf10.block _ (heap_lt HPV.out.1) hn10).trans HPV.out.1; obtain ⟨-, -, -, -, t4⟩ := cells5 he10; have u4 : w10.frozen? ⟨W5.heap.size, 4, none⟩ = false := (by unfold World.frozen?; rw [he10]; simp); have H10 := Lib.hid (And.intro hown10 (And.intro hf10 (And.intro he10 hat10))); clear hown10 hf10 hgrow10 hnil10 hat10 he10 hn10)
          obtain ⟨hown10, hf10, he10, hat10⟩ := H10.out
          obtain ⟨w11, hw11⟩ : ∃ X : World, X = w10.setCell ⟨W5.heap.size, 4, none⟩ (.slice pp2 (k + 1) pc2) := ⟨_, rfl⟩
          rw [← hw11]
          have fE : Fr (fun q => q = W5.heap.size) w10 w11 := by rw [hw11]; exact (Fr.refl (fun q => q = W5.heap.size) w10).setCell (p := ⟨W5.heap.size, 4, none⟩) (.inl rfl) _
          have he11 : w11.heap[W5.heap.size]? = some (.cells #[.string f, .string t, .string lb, .int .i64 tm, .slice pp2 (k + 1) pc2] 27 (0, 0)) := by rw [hw11]; exact heap_setCell_at _ _ 4 _ _ _ _ he10
          obtain ⟨he9, hr9, bx9, hown9, hg9⟩ := HPV.out
          have hlo : ∀ g, (Value.slice pp k pc).ownBlock = some g → w.heap.size + 4 ≤ g := fun g hg => by have := (hown9.lt g hg).1; have := HZ1.out; omega
          have hE5 : w.heap.size + 4 ≤ W5.heap.size := by have := HZ1.out; omega
          have rs11 := (HRS9.out.fr hf10 (fun g e => by have := hlo g e; omega)).fr fE (fun g e => by subst e; omega)
          have f11 : Fr (fun q => (Value.slice pp k pc).ownBlock = some q ∨ q = W5.heap.size) w9 w11 := (hf10.mono (fun _ h => .inl h)).trans fE (fun _ _ h => .inr h)
          have hn11 : ∀ q, q < w.heap.size + 4 → ¬ ((Value.slice pp k pc).ownBlock = some q ∨ q = W5.heap.size) := fun q hq e => by rcases e with e | e; have := hlo q e; omega; omega
          have bx11 := f11.boxed bx9 (hn11 _ (by have := HZ1.out; omega))
          have hr11 := (f11.block _ (heap_lt hr9) (hn11 _ (by omega))).trans hr9
          have hg11 := g_of_fr hg9 f11 (fun q e => by rcases e with e | e; have := hlo q e; omega; omega)
          have hown11 := fE.ownsRow hown10 (fun g hg e => by have := (hown10.lt g hg).1; omega)
          have hz11 := Nat.le_trans hz9 f11.size
          have hps : (propP st).1 = (key, (kd : Int), 0, tx) := by rw [HPP.out]
          have hrp : rdP m0 ([], s6) = rdP (m0 - (k + 1)) (ps ++ [(key, (kd : Int), 0, tx)], s4) := by
            rw [HRP.out, show m0 - k = (m0 - (k + 1)) + 1 from by have := HKL.out; omega, rdP, HPP.out]
          have hsm1 : PSmall (ps ++ [(key, (kd : Int), 0, tx)]) := by rw [← hps]; exact hsm.snoc st
          have hkm : k + 1 ≤ m0 := HKL.out
          have hown12 : w11.ownsRow (W5.heap.size + 1) 56 4 (.slice pp2 (k + 1) pc2) (k + 1) (pcells (ps ++ [(key, (kd : Int), 0, tx)])) := by rw [pcells_app]; exact hown11
          clear H10 hown10 hf10 he10 hat10 hw11 fE he9 hr9 bx9 hown9 hg9 HPV HRS9 f11 hown11 hps
          go_roundw
          case rel => exact ⟨k + 1, ps ++ [(key, (kd : Int), 0, tx)], s4, pp2, pc2, hkm, by go_num, by simp [HPL.out], he11, hown12, hsm1, Lib.hid hrp, rs11, bx11, hr11, hg11, hz11⟩
          case measure => simp [intOf]; omega
    · have hkm : k = m0 := by omega
      rw [hkm, Nat.sub_self] at HRP
      have HE2 := Lib.hid (show edgeP l = ((f, t, lb, tm, ps), st) by rw [HE.out, HRP.out]; rfl)
      have hD := Lib.hid (done_any _ _ st wr hrs)
      have hlt8 : ¬ (k : Int) < (m0 : Int) := by omega
      obtain ⟨R, hRR⟩ : ∃ R, R = w.heap.size := ⟨_, rfl⟩
      have HRR := Lib.hid hRR
      have hRlt : R < wr.heap.size := by have := hg.size; have := HZ1.out; omega
      have hRne : R ≠ W5.heap.size := by have := HZ1.out; omega
      rw [← hRR] at hr hD ⊢
      have cr := fun j v (h : #[Value.string ⟨#[]⟩, .string ⟨#[]⟩, .string ⟨#[]⟩, .int .i64 0, .slice none 0 0][j]? = some v) => (show wr.cell? ⟨R, j, none⟩ = some v by unfold World.cell?; rw [hr]; exact h)
      have x0 := cr 0 _ rfl
      have x1 := cr 1 _ rfl
      have x2 := cr 2 _ rfl
      have x3 := cr 3 _ rfl
      have x4 := cr 4 _ rfl
      have cf := fun j => (show wr.frozen? ⟨R, j, none⟩ = false by unfold World.frozen?; rw [hr]; simp)
      have y0 := cf 0
      have y1 := cf 1
      have y2 := cf 2
      have y3 := cf 3
      have y4 := cf 4
      have ce := fun j v (h : #[Value.string f, .string t, .string lb, .int .i64 tm, .slice pp k pc][j]? = some v) => (show wr.cell? ⟨W5.heap.size, j, none⟩ = some v by unfold World.cell?; rw [he]; exact h)
      have e0 := ce 0 _ rfl
      have e1 := ce 1 _ rfl
      have e2 := ce 2 _ rfl
      have e3 := ce 3 _ rfl
      have e4 := ce 4 _ rfl
      have HOWN := Lib.hid hown
      have HR := Lib.hid hr
      cases hd : doneP st
      · rw [hd] at hD
        have HO := Lib.hid (show okP l = false by rw [okP, HE2.out, hd]; rfl)
        have HKM := Lib.hid hkm
        have HPL := Lib.hid hpl
        clear cr cf ce hown hr he hrs hbx HRP hd hRR hkm hpl hk hlt
        go_wp2_with fail
        refine hD.out.mono ?_
        rintro e w2 ⟨rfl, rfl⟩
        go_wp2_with fail
        obtain ⟨hgF, hrF⟩ := set5 hg (show w.heap.size ≤ R by have := HRR.out; omega) HR.out (.string ⟨#[]⟩) (.string ⟨#[]⟩) (.string ⟨#[]⟩) (.int .i64 0) (.slice none 0 0)
        obtain ⟨q0, q1, q2, q3, q4⟩ := cells5 hrF
        refine bodyPost_ret (v := .tuple #[.agg #[.string ⟨#[]⟩, .string ⟨#[]⟩, .string ⟨#[]⟩, .int .i64 0, .slice none 0 0], .int .i64 4]) ?_ rfl ⟨zeroE, by rw [errP, HO.out]; rfl, by rw [outP, HO.out]; rfl, zeroE_at _, hgF⟩
        simp [results, Try.results11, go_sem, q0, q1, q2, q3, q4]
      · rw [hd] at hD
        have hat : EdgAt wr ⟨f, t, lb, tm, .slice pp k pc, ps⟩ := ⟨by show Rdr wr 4 (.slice pp k pc) ps.length (pcells ps); rw [hpl]; exact rdr_of_owns hown, by show ps.length ≤ _; omega, hsm.sz, by have := HSZ.out; unfold maxLen; show f.size ≤ _; omega, by have := HSZ.out; unfold maxLen; show t.size ≤ _; omega, by have := HSZ.out; unfold maxLen; show lb.size ≤ _; omega⟩
        obtain ⟨ck, hck⟩ : ∃ ck, ck = checkP f t lb tm ps := ⟨_, rfl⟩
        have HCK := Lib.hid (check_any _ wr hat)
        rw [show checkE ⟨f, t, lb, tm, .slice pp k pc, ps⟩ = ck by rw [hck]; rfl] at HCK
        unfold ev at HCK
        simp only at HCK
        have HAT := Lib.hid hat
        by_cases hc0 : ck = 0
        · have HO := Lib.hid (show okP l = true by rw [okP, HE2.out, hd]; simp only [← hck, hc0]; rfl)
          subst hc0
          have HKM := Lib.hid hkm
          have HPL := Lib.hid hpl
          clear cr cf ce hown hr he hrs hbx HRP hd hRR hkm hpl hk hlt hat hck
          go_wp2_with fail
          refine hD.out.mono ?_
          rintro e w2 ⟨rfl, rfl⟩
          go_wp2_with fail
          refine HCK.out.mono ?_
          rintro e w3 ⟨rfl, hg3⟩
          have x0 := hg3.cell x0
          have x1 := hg3.cell x1
          have x2 := hg3.cell x2
          have x3 := hg3.cell x3
          have x4 := hg3.cell x4
          have e0 := hg3.cell e0
          have e1 := hg3.cell e1
          have e2 := hg3.cell e2
          have e3 := hg3.cell e3
          have e4 := hg3.cell e4
          have hr3 := (hg3.block hRlt).trans HR.out
          have y0 : w3.frozen? ⟨R, 0, none⟩ = false := by unfold World.frozen?; rw [hr3]; simp
          have y1 : w3.frozen? ⟨R, 1, none⟩ = false := by unfold World.frozen?; rw [hr3]; simp
          have y2 : w3.frozen? ⟨R, 2, none⟩ = false := by unfold World.frozen?; rw [hr3]; simp
          have y3 : w3.frozen? ⟨R, 3, none⟩ = false := by unfold World.frozen?; rw [hr3]; simp
          have y4 : w3.frozen? ⟨R, 4, none⟩ = false := by unfold World.frozen?; rw [hr3]; simp
          obtain ⟨hgF, hrF⟩ := set5 (hg.trans hg3) (show w.heap.size ≤ R by have := HRR.out; omega) hr3 (.string f) (.string t) (.string lb) (.int .i64 tm) (.slice pp k pc)
          obtain ⟨q0, q1, q2, q3, q4⟩ := cells5 hrF
          have hatF := (HAT.out.g hg3).fr ((((((Fr.refl (fun q => q = R) w3).setCell (p := ⟨R, 0, none⟩) (.inl rfl) (.string f)).setCell (p := ⟨R, 1, none⟩) (.inl rfl) (.string t)).setCell (p := ⟨R, 2, none⟩) (.inl rfl) (.string lb)).setCell (p := ⟨R, 3, none⟩) (.inl rfl) (.int .i64 tm)).setCell (p := ⟨R, 4, none⟩) (.inl rfl) (.slice pp k pc)) (fun g hgg e => by have := (HOWN.out.lt g hgg).1; have := HZ1.out; have := HRR.out; omega)
          clear HR hr3 hrF HCK hD
          go_wp2_with fail
          refine bodyPost_ret (v := .tuple #[.agg #[.string f, .string t, .string lb, .int .i64 tm, .slice pp k pc], .int .i64 0]) ?_ rfl ⟨⟨f, t, lb, tm, .slice pp k pc, ps⟩, by rw [errP, HO.out]; rfl, by rw [outP, HO.out, HE2.out]; rfl, hatF, hgF⟩
          simp [results, Try.results11, go_sem, q0, q1, q2, q3, q4]
        · have HO := Lib.hid (show okP l = false by rw [okP, HE2.out, hd]; simp only [← hck]; simpa using hc0)
          have hc1 : (ck != 0) = true := by simpa using hc0
          clear hc0
          have HKM := Lib.hid hkm
          have HPL := Lib.hid hpl
          clear cr cf ce hown hr he hrs hbx HRP hd hRR hkm hpl hk hlt hat hck
          go_wp2_with fail
          refine hD.out.mono ?_
          rintro e w2 ⟨rfl, rfl⟩
          go_wp2_with fail
          refine HCK.out.mono ?_
          rintro e w3 ⟨rfl, hg3⟩
          have x0 := hg3.cell x0
          have x1 := hg3.cell x1
          have x2 := hg3.cell x2
          have x3 := hg3.cell x3
          have x4 := hg3.cell x4
          have hr3 := (hg3.block hRlt).trans HR.out
          have y0 : w3.frozen? ⟨R, 0, none⟩ = false := by unfold World.frozen?; rw [hr3]; simp
          have y1 : w3.frozen? ⟨R, 1, none⟩ = false := by unfold World.frozen?; rw [hr3]; simp
          have y2 : w3.frozen? ⟨R, 2, none⟩ = false := by unfold World.frozen?; rw [hr3]; simp
          have y3 : w3.frozen? ⟨R, 3, none⟩ = false := by unfold World.frozen?; rw [hr3]; simp
          have y4 : w3.frozen? ⟨R, 4, none⟩ = false := by unfold World.frozen?; rw [hr3]; simp
          obtain ⟨hgF, hrF⟩ := set5 (hg.trans hg3) (show w.heap.size ≤ R by have := HRR.out; omega) hr3 (.string ⟨#[]⟩) (.string ⟨#[]⟩) (.string ⟨#[]⟩) (.int .i64 0) (.slice none 0 0)
          obtain ⟨q0, q1, q2, q3, q4⟩ := cells5 hrF
          clear HR hr3 hrF HCK hD
          go_wp2_with fail
          refine bodyPost_ret (v := .tuple #[.agg #[.string ⟨#[]⟩, .string ⟨#[]⟩, .string ⟨#[]⟩, .int .i64 0, .slice none 0 0], .int .i64 4]) ?_ rfl ⟨zeroE, by rw [errP, HO.out]; rfl, by rw [outP, HO.out]; rfl, zeroE_at _, hgF⟩
          simp [results, Try.results11, go_sem, q0, q1, q2, q3, q4]
end Go.Proofs.Ytfdajignnnhnmaa
