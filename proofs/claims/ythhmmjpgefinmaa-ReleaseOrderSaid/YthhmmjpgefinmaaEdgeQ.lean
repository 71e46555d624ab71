/- laid together: EdgeH EdgeI EdgeJ EdgeL EdgeM EdgeO EdgeQ -/
import Derived.Test.YthhmmjpgefinmaaEdgeG
import Derived.Laws.OwnMore
import Derived.Laws.BytesArg
import Derived.Laws.IdiomStrings
import Derived.Lib.EndianBits
import Derived.Deep.AppendLies
/- edges: bytes that are gone through: the program's reader -/
namespace Go.Proofs.Ythhmmjpgefinmaa
set_option linter.unusedVariables false
set_option linter.unusedSimpArgs false
open Go.RowKit Go.Shelf
attribute [local go_sem] Oper.semAt_some

/-- whether they ended too early; what is left -/
abbrev St := Bool × List UInt8
def takeP (n : Nat) (s : St) : List UInt8 × St := if s.1 = true ∨ s.2.length < n then (List.replicate n 0, (true, s.2)) else (s.2.take n, (false, s.2.drop n))
theorem takeP_len (n : Nat) (s : St) : (takeP n s).1.length = n := by
  unfold takeP; split
  · simp
  · rename_i h; simp only [not_or, Nat.not_lt] at h; rw [List.length_take]; omega
theorem takeP_rest (n : Nat) (s : St) : (takeP n s).2.2.length ≤ s.2.length := by
  unfold takeP; split
  · simp
  · simp
theorem Rdr.frz {S : Nat → Prop} {W W' : World} {size n : Nat} {v : Value} {xs : List Value} (hr : Rdr W size v n xs) (h : Fr S W W') (hs : 0 < n → ∀ g, v.ownBlock = some g → ¬ S g) : Rdr W' size v n xs := by
  rcases Nat.eq_zero_or_pos n with h0 | h0
  · obtain ⟨h1, p, c, h2, -⟩ := hr
    exact ⟨h1, p, c, h2, fun h3 => by omega⟩
  · exact hr.fr h (hs h0)
theorem zeros_bys (n : Nat) : (madeCells #[Value.int .u8 0] n).toList = bys (List.replicate n 0) := by
  rw [toList_madeCells_one]; simp [bys]
theorem bys_take (l : List UInt8) (n : Nat) : bys (l.take n) = (bys l).take n := by simp [bys, List.map_take]
theorem bys_drop (l : List UInt8) (n : Nat) : bys (l.drop n) = (bys l).drop n := by simp [bys, List.map_drop]
theorem rdr_made (w : World) (n : Nat) : Rdr (w.alloc (.cells (madeCells #[Value.int .u8 0] n) 5)) 1 (.slice (some ⟨w.heap.size, 0, none⟩) n n) n (bys (List.replicate n 0)) := by
  have h := rdr_alloc w (bys (List.replicate n 0)) 5 (0, 0) 1 n n (by simp [bys])
  have e : (bys (List.replicate n 0)).toArray = madeCells #[Value.int .u8 0] n := by rw [← zeros_bys]
  rwa [e] at h

/-- was all there, and is nothing left? -/
def doneP (s : St) : Bool := !s.1 && decide (s.2.length = 0)
end Go.Proofs.Ythhmmjpgefinmaa

/- edges: texts, numbers out of bytes: the program's -/
namespace Go.Proofs.Ythhmmjpgefinmaa
set_option linter.unusedVariables false
set_option linter.unusedSimpArgs false
open Go.RowKit Go.Shelf
attribute [local go_sem] Oper.semAt_some

def headN (l : List UInt8) : Nat := (l.headD 0).toNat
def wordP (s : St) : ByteArray × St := (⟨(takeP (headN (takeP 1 s).1) (takeP 1 s).2).1.toArray⟩, (takeP (headN (takeP 1 s).1) (takeP 1 s).2).2)
theorem headN_lt (l : List UInt8) : headN l ≤ 255 := by unfold headN; have := (l.headD 0).toNat_lt; omega
theorem bys_head {l : List UInt8} (h : 0 < l.length) : (bys l)[0]? = some (.int .u8 (headN l)) := by
  cases l with
  | nil => simp at h
  | cons c l => simp [bys, headN]
def foldB (l : List UInt8) (n : Int) : Int := l.foldl (fun n c => n * 256 + (c.toNat : Int)) n
def numP (s : St) : Int × St := (foldB (takeP 6 s).1 0, (takeP 6 s).2)
theorem foldB_take (l : List UInt8) (k : Nat) (c : UInt8) (h : l[k]? = some c) : foldB (l.take (k + 1)) 0 = foldB (l.take k) 0 * 256 + (c.toNat : Int) := by
  unfold foldB; rw [List.take_add_one, h, List.foldl_append]; rfl
theorem foldB_bd : ∀ (l : List UInt8) (n : Int), 0 ≤ n → 0 ≤ foldB l n ∧ foldB l n < (n + 1) * 256 ^ l.length
  | [], n, h => ⟨h, by show n < (n + 1) * 1; omega⟩
  | c :: l, n, h => by
    have hc := c.toNat_lt
    have ih := foldB_bd l (n * 256 + (c.toNat : Int)) (by omega)
    have e : foldB (c :: l) n = foldB l (n * 256 + (c.toNat : Int)) := rfl
    rw [e]
    refine ⟨ih.1, Int.lt_of_lt_of_le ih.2 ?_⟩
    rw [List.length_cons, Int.pow_succ, ← Int.mul_assoc, Int.mul_right_comm]
    exact Int.mul_le_mul_of_nonneg_right (by omega) (Int.pow_nonneg (by decide))
theorem foldB_lt (l : List UInt8) (k : Nat) (hk : k ≤ 5) : 0 ≤ foldB (l.take k) 0 ∧ foldB (l.take k) 0 < 1099511627776 := by
  have h := foldB_bd (l.take k) 0 (by omega)
  refine ⟨h.1, Int.lt_of_lt_of_le h.2 ?_⟩
  have h2 : (l.take k).length ≤ 5 := by rw [List.length_take]; omega
  have e0 : (256 : Int) ^ 0 = 1 := by decide
  have e1 : (256 : Int) ^ 1 = 256 := by decide
  have e2 : (256 : Int) ^ 2 = 65536 := by decide
  have e3 : (256 : Int) ^ 3 = 16777216 := by decide
  have e4 : (256 : Int) ^ 4 = 4294967296 := by decide
  have e5 : (256 : Int) ^ 5 = 1099511627776 := by decide
  rcases (by omega : (l.take k).length = 0 ∨ (l.take k).length = 1 ∨ (l.take k).length = 2 ∨ (l.take k).length = 3 ∨ (l.take k).length = 4 ∨ (l.take k).length = 5) with h | h | h | h | h | h <;> rw [h] <;> omega
theorem or_byte (q : Int) (c : UInt8) (h0 : 0 ≤ q) (h1 : q < 1099511627776) : bits .or .i64 (q * 256) (c.toNat : Int) = q * 256 + (c.toNat : Int) := by
  have hc := c.toNat_lt
  exact bits_join .i64 62 (by decide) (fun n a b => IntWalk.i64_in n (by omega)) 8 (q * 256) (c.toNat : Int) (by omega) (by omega) (by omega) (by omega) (by omega) (by omega)
end Go.Proofs.Ythhmmjpgefinmaa

/- edges: bytes as an edge: what both tell; the program's Parse begins -/
namespace Go.Proofs.Ythhmmjpgefinmaa
set_option linter.unusedVariables false
set_option linter.unusedSimpArgs false
open Go.RowKit Go.Shelf
attribute [local go_sem] Oper.semAt_some

theorem run_store_func {P : Program} (w : World) (a : Addr) (m : Mode) (f : Fn) (ts xs : Array Value) : (store a (.func f ts xs) m).run P w = stored P w a (.func f ts xs) m := run_store P w a _ m rfl
attribute [local go_sem] run_store_func
theorem wordP_size (s : St) : (wordP s).1.size ≤ 255 := by
  have h := takeP_len (headN (takeP 1 s).1) (takeP 1 s).2
  have h2 := headN_lt (takeP 1 s).1
  show ((takeP (headN (takeP 1 s).1) (takeP 1 s).2).1.toArray).size ≤ 255
  rw [List.size_toArray, h]; exact h2
theorem numP_bd (s : St) : 0 ≤ (numP s).1 ∧ (numP s).1 < 281474976710656 := by
  have h := foldB_bd (takeP 6 s).1 0 (by omega)
  rw [takeP_len] at h
  have e : (256 : Int) ^ 6 = 281474976710656 := by decide
  rw [e] at h
  exact ⟨h.1, by have := h.2; show foldB (takeP 6 s).1 0 < _; omega⟩
/-- a prop is read -/
def propP (s : St) : Prp × St :=
  if headN (takeP 1 (wordP s).2).1 = 1 then (((wordP s).1, 1, (numP (takeP 1 (wordP s).2).2).1 - 1099511627776, ⟨#[]⟩), (numP (takeP 1 (wordP s).2).2).2)
  else (((wordP s).1, (headN (takeP 1 (wordP s).2).1 : Int), 0, (wordP (takeP 1 (wordP s).2).2).1), (wordP (takeP 1 (wordP s).2).2).2)
def rdP : Nat → List Prp × St → List Prp × St
  | 0, x => x
  | n + 1, x => rdP n (x.1 ++ [(propP x.2).1], (propP x.2).2)
def edgeP (l : List UInt8) : (ByteArray × ByteArray × ByteArray × Int × List Prp) × St :=
  let a := wordP (false, l)
  let b := wordP a.2
  let c := wordP b.2
  let d := numP c.2
  let m := takeP 1 d.2
  let r := rdP (headN m.1) ([], m.2)
  ((a.1, b.1, c.1, d.1, r.1), r.2)
def PSmall (ps : List Prp) : Prop := ∀ p ∈ ps, p.1.size ≤ 255 ∧ p.2.2.2.size ≤ 255
theorem propP_small (s : St) : (propP s).1.1.size ≤ 255 ∧ (propP s).1.2.2.2.size ≤ 255 := by
  unfold propP; split
  · exact ⟨wordP_size _, by show (0 : Nat) ≤ 255; omega⟩
  · exact ⟨wordP_size _, wordP_size _⟩
theorem PSmall.snoc {ps : List Prp} (h : PSmall ps) (s : St) : PSmall (ps ++ [(propP s).1]) := by
  intro p hp
  rcases List.mem_append.1 hp with hp | hp
  · exact h p hp
  · obtain rfl := List.mem_singleton.1 hp
    exact propP_small s
theorem PSmall.sz {ps : List Prp} (h : PSmall ps) : PSz ps := fun p hp => by have := h p hp; unfold maxLen; omega
theorem rdP_small : ∀ (n : Nat) (x : List Prp × St), PSmall x.1 → PSmall (rdP n x).1
  | 0, x, h => h
  | n + 1, x, h => rdP_small n _ (h.snoc x.2)
theorem rdP_len : ∀ (n : Nat) (x : List Prp × St), (rdP n x).1.length = x.1.length + n
  | 0, x => rfl
  | n + 1, x => by rw [rdP, rdP_len n]; simp; omega
theorem infoP : (Try.prog.info? 105).map (fun i => (i.zero, i.size, i.bytes)) = some (some (.agg #[.string ⟨#[]⟩, .int .i64 0, .int .i64 0, .string ⟨#[]⟩]), 4, 48) := by kernel_rfl
/-- an edge in a block is written over -/
theorem set5 {w W : World} {R : Nat} {ty : TypeId} {a0 a1 a2 a3 a4 : Value} (hg : G w W) (hR : w.heap.size ≤ R) (h : W.heap[R]? = some (.cells #[a0, a1, a2, a3, a4] ty (0, 0))) (v0 v1 v2 v3 v4 : Value) :
    G w (((((W.setCell ⟨R, 0, none⟩ v0).setCell ⟨R, 1, none⟩ v1).setCell ⟨R, 2, none⟩ v2).setCell ⟨R, 3, none⟩ v3).setCell ⟨R, 4, none⟩ v4) ∧ (((((W.setCell ⟨R, 0, none⟩ v0).setCell ⟨R, 1, none⟩ v1).setCell ⟨R, 2, none⟩ v2).setCell ⟨R, 3, none⟩ v3).setCell ⟨R, 4, none⟩ v4).heap[R]? = some (.cells #[v0, v1, v2, v3, v4] ty (0, 0)) :=
  ⟨((((hg.setCell hR _).setCell hR _).setCell hR _).setCell hR _).setCell hR _, heap_setCell_at _ R 4 _ _ _ _ (heap_setCell_at _ R 3 _ _ _ _ (heap_setCell_at _ R 2 _ _ _ _ (heap_setCell_at _ R 1 _ _ _ _ (heap_setCell_at _ R 0 _ _ _ _ h))))⟩
theorem cells5 {W : World} {R : Nat} {ty : TypeId} {v0 v1 v2 v3 v4 : Value} (h : W.heap[R]? = some (.cells #[v0, v1, v2, v3, v4] ty (0, 0))) :
    W.cell? ⟨R, 0, none⟩ = some v0 ∧ W.cell? ⟨R, 1, none⟩ = some v1 ∧ W.cell? ⟨R, 2, none⟩ = some v2 ∧ W.cell? ⟨R, 3, none⟩ = some v3 ∧ W.cell? ⟨R, 4, none⟩ = some v4 := by
  unfold World.cell?; rw [h]; exact ⟨rfl, rfl, rfl, rfl, rfl⟩
def zeroE : Edg := ⟨⟨#[]⟩, ⟨#[]⟩, ⟨#[]⟩, 0, .slice none 0 0, []⟩
theorem zeroE_at (W : World) : EdgAt W zeroE := ⟨Rdr.nil _ _ _ _, by show (0 : Nat) ≤ _; omega, (fun p hp => by cases hp), Nat.zero_le _, Nat.zero_le _, Nat.zero_le _⟩
/-- what Parse tells: from, to, label, time, props -/
abbrev Out := ByteArray × ByteArray × ByteArray × Int × List Prp
def outE (E : Edg) : Out := (E.f, E.t, E.l, E.tm, E.ps)
theorem g_of_fr {S : Nat → Prop} {w a b : World} (hg : G w a) (hf : Fr S a b) (hS : ∀ k, S k → w.heap.size ≤ k) : G w b := ((hg.fr (fun q => w.heap.size ≤ q)).trans hf (fun q _ h => hS q h)).g (fun _ h => h)
/-- what Parse tells -/
def okP (l : List UInt8) : Bool := doneP (edgeP l).2 && decide (checkP (edgeP l).1.1 (edgeP l).1.2.1 (edgeP l).1.2.2.1 (edgeP l).1.2.2.2.1 (edgeP l).1.2.2.2.2 = 0)

def outP (l : List UInt8) : Out := if okP l = true then (edgeP l).1 else (⟨#[]⟩, ⟨#[]⟩, ⟨#[]⟩, 0, [])
def errP (l : List UInt8) : Int := if okP l = true then 0 else 4
theorem hl_class {P : Program} {md : Region.Mode} {ops : Array Oper} {Q : Exit → Act → World → Prop} {S S' : World → Prop} {t : Nat} (h : ∀ w, S' w → S w) : ∀ (fuel : Nat) (listed : Array Bool) (a : Act) (w : World), hl P md ops Q S' t fuel listed a w → hl P md ops Q S t fuel listed a w
  | 0, _, _, _, h1 => h1
  | fuel + 1, _, _, _, h1 => ⟨h1.1, fun i hi => opR_mono (fun _ w' h2 => ⟨fun e => h w' (h2.1 e), hl_class h fuel _ _ _ h2.2⟩) (h1.2 i hi)⟩
/-- a prop in a block is written over -/
theorem set4 {W : World} {R : Nat} {ty : TypeId} {a0 a1 a2 a3 : Value} (h : W.heap[R]? = some (.cells #[a0, a1, a2, a3] ty (0, 0))) (v0 v1 v2 v3 : Value) :
    ((((W.setCell ⟨R, 0, none⟩ v0).setCell ⟨R, 1, none⟩ v1).setCell ⟨R, 2, none⟩ v2).setCell ⟨R, 3, none⟩ v3).heap[R]? = some (.cells #[v0, v1, v2, v3] ty (0, 0)) :=
  heap_setCell_at _ R 3 _ _ _ _ (heap_setCell_at _ R 2 _ _ _ _ (heap_setCell_at _ R 1 _ _ _ _ (heap_setCell_at _ R 0 _ _ _ _ h)))
theorem fr4 {S : Nat → Prop} {w W : World} {R : Nat} (hf : Fr S w W) (hR : w.heap.size ≤ R) (v0 v1 v2 v3 : Value) :
    Fr S w ((((W.setCell ⟨R, 0, none⟩ v0).setCell ⟨R, 1, none⟩ v1).setCell ⟨R, 2, none⟩ v2).setCell ⟨R, 3, none⟩ v3) :=
  (((hf.setCell (p := ⟨R, 0, none⟩) (.inr hR) v0).setCell (p := ⟨R, 1, none⟩) (.inr hR) v1).setCell (p := ⟨R, 2, none⟩) (.inr hR) v2).setCell (p := ⟨R, 3, none⟩) (.inr hR) v3
theorem cells4 {W : World} {R : Nat} {ty : TypeId} {v0 v1 v2 v3 : Value} (h : W.heap[R]? = some (.cells #[v0, v1, v2, v3] ty (0, 0))) :
    W.cell? ⟨R, 0, none⟩ = some v0 ∧ W.cell? ⟨R, 1, none⟩ = some v1 ∧ W.cell? ⟨R, 2, none⟩ = some v2 ∧ W.cell? ⟨R, 3, none⟩ = some v3 := by
  unfold World.cell?; rw [h]; exact ⟨rfl, rfl, rfl, rfl⟩
theorem heap_lt {W : World} {k : Nat} {o : Obj} (h : W.heap[k]? = some o) : k < W.heap.size := (Array.getElem?_eq_some_iff.1 h).1
end Go.Proofs.Ythhmmjpgefinmaa

/- edges: bytes that are gone through: the document's reader -/
namespace Go.Proofs.Ythhmmjpgefinmaa
set_option linter.unusedVariables false
set_option linter.unusedSimpArgs false
open Go.RowKit Go.Shelf
attribute [local go_sem] Oper.semAt_some

theorem cells2 {W : World} {R : Nat} {ty : TypeId} {v0 v1 : Value} (h : W.heap[R]? = some (.cells #[v0, v1] ty (0, 0))) :
    W.cell? ⟨R, 0, none⟩ = some v0 ∧ W.cell? ⟨R, 1, none⟩ = some v1 ∧ W.frozen? ⟨R, 0, none⟩ = false ∧ W.frozen? ⟨R, 1, none⟩ = false := by
  unfold World.cell? World.frozen?; rw [h]; exact ⟨rfl, rfl, by simp, by simp⟩
end Go.Proofs.Ythhmmjpgefinmaa

/- edges: bytes as an edge: the document's Parse -/
namespace Go.Proofs.Ythhmmjpgefinmaa
set_option linter.unusedVariables false
set_option linter.unusedSimpArgs false
open Go.RowKit Go.Shelf
attribute [local go_sem] Oper.semAt_some

theorem lt_of_cell {W : World} {b o : Nat} {v : Value} (h : W.cell? ⟨b, o, none⟩ = some v) : b < W.heap.size := World.block_lt_of_cell? W ⟨b, o, none⟩ h
end Go.Proofs.Ythhmmjpgefinmaa

/- edges: the chapter's example; EdgeParses: the walk -/
namespace Go.Proofs.Ythhmmjpgefinmaa
set_option linter.unusedVariables false
set_option linter.unusedSimpArgs false
open Go.RowKit Go.Shelf
attribute [local go_sem] Oper.semAt_some

def exP : List Prp := [(⟨#[107]⟩, 1, 7, ⟨#[]⟩)]
def exB : List UInt8 := [1, 97, 1, 98, 1, 120, 0, 0, 0, 0, 0, 5, 1, 1, 107, 1, 1, 0, 0, 0, 0, 7]
theorem ex_put : putP ⟨#[97]⟩ ⟨#[98]⟩ ⟨#[120]⟩ 5 exP = exB := by decide +kernel
theorem ex_check : checkP ⟨#[97]⟩ ⟨#[98]⟩ ⟨#[120]⟩ 5 exP = 0 := by decide +kernel
theorem ex_out : outP exB = (⟨#[97]⟩, ⟨#[98]⟩, ⟨#[120]⟩, 5, exP) := by kernel_rfl
theorem ex_err : errP exB = 0 := by decide +kernel
theorem own_slice {w : World} {base : Nat} {e : TypeId} {size n : Nat} {v : Value} {xs : List Value} (h : w.ownsRow base e size v n xs) : ∃ p c, v = .slice p n c ∧ n ≤ c ∧ c ≤ maxLen := by
  rcases h.2 with ⟨rfl, rfl⟩ | ⟨g, cap, cur, rfl, -, -, h1, h2, -⟩
  · exact ⟨_, _, rfl, Nat.le_refl _, Nat.zero_le _⟩
  · exact ⟨_, _, rfl, h1, h2⟩
theorem same_of_out {A B : Edg} (h : outE A = outE B) : sameE A B = true := by
  simp only [outE, Prod.mk.injEq] at h
  obtain ⟨h1, h2, h3, h4, h5⟩ := h
  simp [sameE, h1, h2, h3, h4, h5]
theorem Lent.g {W W' : World} {base : Nat} {e : TypeId} {size n : Nat} {v : Value} {xs : List Value} (h : Lent W base e size v n xs) (hg : G W W') : Lent W' base e size v n xs := h.fr (hg.fr (fun _ => False)) (fun _ _ h => h)
end Go.Proofs.Ythhmmjpgefinmaa

/- rows of edges; how many edges, props there are -/
namespace Go.Proofs.Ythhmmjpgefinmaa
set_option linter.unusedVariables false
set_option linter.unusedSimpArgs false
open Go.RowKit Go.Shelf
attribute [local go_sem] Oper.semAt_some

def ecs : List Edg → List Value
  | [] => []
  | E :: l => .string E.f :: .string E.t :: .string E.l :: .int .i64 E.tm :: E.v :: ecs l
theorem ecs_app : ∀ l m : List Edg, ecs (l ++ m) = ecs l ++ ecs m
  | [], m => rfl
  | x :: l, m => by simp only [ecs, List.cons_append, ecs_app l m]
theorem ecs_len : ∀ l : List Edg, (ecs l).length = l.length * 5
  | [] => rfl
  | x :: l => by simp only [ecs, List.length_cons, ecs_len l]; omega
theorem ecs_get : ∀ {l : List Edg} {k : Nat} {E : Edg}, l[k]? = some E → (ecs l)[k * 5]? = some (.string E.f) ∧ (ecs l)[k * 5 + 1]? = some (.string E.t) ∧ (ecs l)[k * 5 + 2]? = some (.string E.l) ∧ (ecs l)[k * 5 + 3]? = some (.int .i64 E.tm) ∧ (ecs l)[k * 5 + 4]? = some E.v
  | x :: l, 0, E, h => by cases h; exact ⟨rfl, rfl, rfl, rfl, rfl⟩
  | x :: l, k + 1, E, h => by
    obtain ⟨a, b, c, d, e⟩ := ecs_get (l := l) (k := k) (E := E) (by simpa using h)
    simp only [ecs, Nat.add_mul, Nat.one_mul]
    exact ⟨by simpa using a, by simpa using b, by simpa using c, by simpa using d, by simpa using e⟩
/-- a row of edges is read -/
structure RdrE (W : World) (v : Value) (l : List Edg) : Prop where
  row : Rdr W 5 v l.length (ecs l)
  each : ∀ E ∈ l, EdgAt W E
theorem RdrE.g {W W' : World} {v : Value} {l : List Edg} (h : RdrE W v l) (hg : G W W') : RdrE W' v l := ⟨h.row.g hg, fun E hE => (h.each E hE).g hg⟩
theorem RdrE.shape {W : World} {v : Value} {l : List Edg} (h : RdrE W v l) : ∃ p c, v = .slice p l.length c := by
  obtain ⟨-, p, c, h, -⟩ := h.row; exact ⟨p, c, h⟩
theorem RdrE.at {W : World} {p : Option Addr} {n c : Nat} {l : List Edg} (h : RdrE W (.slice p n c) l) {k : Nat} {E : Edg} (hk : l[k]? = some E) : ∃ b o, p = some ⟨b, o, none⟩ ∧ W.cell? ⟨b, o + k * 5, none⟩ = some (.string E.f) ∧ W.cell? ⟨b, o + k * 5 + 1, none⟩ = some (.string E.t) ∧ W.cell? ⟨b, o + k * 5 + 2, none⟩ = some (.string E.l) ∧ W.cell? ⟨b, o + k * 5 + 3, none⟩ = some (.int .i64 E.tm) ∧ W.cell? ⟨b, o + k * 5 + 4, none⟩ = some E.v := by
  obtain ⟨-, p', c', he, hc⟩ := h.row
  cases he
  have h0 : 0 < l.length := by have := (List.getElem?_eq_some_iff.1 hk).1; omega
  obtain ⟨b, o, hp, hcell⟩ := hc h0
  obtain ⟨a0, a1, a2, a3, a4⟩ := ecs_get hk
  exact ⟨b, o, hp, hcell _ _ a0, by rw [Nat.add_assoc]; exact hcell _ _ a1, by rw [Nat.add_assoc]; exact hcell _ _ a2, by rw [Nat.add_assoc]; exact hcell _ _ a3, by rw [Nat.add_assoc]; exact hcell _ _ a4⟩
/-- how many edges, props there are -/
def esum : List Edg → Nat
  | [] => 0
  | E :: l => E.ps.length + esum l
theorem esum_app : ∀ l m : List Edg, esum (l ++ m) = esum l + esum m
  | [], m => by simp [esum]
  | x :: l, m => by simp only [esum, List.cons_append, esum_app l m]; omega
theorem esum_take {l : List Edg} {k : Nat} {E : Edg} (h : l[k]? = some E) : esum (l.take (k + 1)) = esum (l.take k) + E.ps.length := by
  rw [List.take_add_one, h, esum_app]; simp [esum]
theorem esum_mem : ∀ {l : List Edg} {E : Edg}, E ∈ l → E.ps.length ≤ esum l
  | x :: l, E, h => by
    rcases List.mem_cons.1 h with h | h
    · subst h; simp only [esum]; omega
    · have := esum_mem h; simp only [esum]; omega
theorem rdrE_two {W : World} (A B : Edg) (ha : EdgAt W A) (hb : EdgAt W B) : RdrE (W.alloc (.cells (ecs [A, B]).toArray 51)) (.slice (some ⟨W.heap.size, 0, none⟩) 2 2) [A, B] :=
  ⟨rdr_alloc W (ecs [A, B]) 51 (0, 0) 5 2 2 rfl, fun E hE => by
    rcases List.mem_cons.1 hE with h | h
    · subst h; exact ha.g ((G.refl W).alloc _)
    · obtain rfl := List.mem_singleton.1 h; exact hb.g ((G.refl W).alloc _)⟩
end Go.Proofs.Ythhmmjpgefinmaa
