/- laid together: EdgeU EdgeT -/
import Derived.Test.YthhmmjpgefinmaaEdgeS
import Derived.Deep.LoopGhost
/- edges: a prop by its key -/
namespace Go.Proofs.Ythhmmjpgefinmaa
set_option linter.unusedVariables false
set_option linter.unusedSimpArgs false
open Go.RowKit Go.Shelf
attribute [local go_sem] Oper.semAt_some

/-- the first prop with this key -/
def propF (ps : List Prp) (s : ByteArray) : Val × Bool :=
  match ps.find? (fun p => decide (p.1 = s)) with
  | some p => (p.2, true)
  | none => ((0, 0, ⟨#[]⟩), false)
theorem propF_yes {ps : List Prp} {k : Nat} {p : Prp} {s : ByteArray} (h : ps[k]? = some p) (hp : p.1 = s) : propF (ps.drop k) s = (p.2, true) := by
  obtain ⟨h1, h2⟩ := List.getElem?_eq_some_iff.1 h
  rw [List.drop_eq_getElem_cons h1, h2, propF, List.find?_cons_of_pos (by simpa using hp)]
theorem propF_no {ps : List Prp} {k : Nat} {p : Prp} {s : ByteArray} (h : ps[k]? = some p) (hp : p.1 ≠ s) : propF (ps.drop k) s = propF (ps.drop (k + 1)) s := by
  obtain ⟨h1, h2⟩ := List.getElem?_eq_some_iff.1 h
  rw [List.drop_eq_getElem_cons h1, h2, propF, List.find?_cons_of_neg (by simpa using hp)]; rfl
theorem set3 {w W : World} {R : Nat} {ty : TypeId} {a0 a1 a2 : Value} (hg : G w W) (hR : w.heap.size ≤ R) (h : W.heap[R]? = some (.cells #[a0, a1, a2] ty (0, 0))) (v0 v1 v2 : Value) :
    G w (((W.setCell ⟨R, 0, none⟩ v0).setCell ⟨R, 1, none⟩ v1).setCell ⟨R, 2, none⟩ v2) ∧ (((W.setCell ⟨R, 0, none⟩ v0).setCell ⟨R, 1, none⟩ v1).setCell ⟨R, 2, none⟩ v2).heap[R]? = some (.cells #[v0, v1, v2] ty (0, 0)) :=
  ⟨((hg.setCell hR _).setCell hR _).setCell hR _, heap_setCell_at _ R 2 _ _ _ _ (heap_setCell_at _ R 1 _ _ _ _ (heap_setCell_at _ R 0 _ _ _ _ h))⟩
theorem cells3 {W : World} {R : Nat} {ty : TypeId} {v0 v1 v2 : Value} (h : W.heap[R]? = some (.cells #[v0, v1, v2] ty (0, 0))) :
    W.cell? ⟨R, 0, none⟩ = some v0 ∧ W.cell? ⟨R, 1, none⟩ = some v1 ∧ W.cell? ⟨R, 2, none⟩ = some v2 := by
  unfold World.cell?; rw [h]; exact ⟨rfl, rfl, rfl⟩
theorem beq_f {x y : ByteArray} (h : x ≠ y) : (x.toList == y.toList) = false := by rw [str_beq]; simpa using h
theorem beq_t {x y : ByteArray} (h : x = y) : (x.toList == y.toList) = true := by rw [str_beq]; simpa using h
end Go.Proofs.Ythhmmjpgefinmaa

/- edges: how two stand: the document's; the plain order -/
namespace Go.Proofs.Ythhmmjpgefinmaa
set_option linter.unusedVariables false
set_option linter.unusedSimpArgs false
open Go.RowKit Go.Shelf
attribute [local go_sem] Oper.semAt_some

/-- a total order told as -1, 0, 1 -/
structure Good {α : Type} (f : α → α → Int) : Prop where
  rng : ∀ x y, f x y = -1 ∨ f x y = 0 ∨ f x y = 1
  eq : ∀ x y, f x y = 0 ↔ x = y
  anti : ∀ x y, f y x = - f x y
  tr : ∀ x y z, f x y ≤ 0 → f y z ≤ 0 → f x z = min (f x y) (f y z)
theorem good_int : Good Lib.compareInt := by
  refine ⟨?_, ?_, ?_, ?_⟩ <;> intros <;> unfold Lib.compareInt at * <;> (repeat' split) <;> (repeat' split at *) <;> omega
theorem Good.self {α : Type} {f : α → α → Int} (h : Good f) (x : α) : f x x = 0 := (h.eq x x).2 rfl
/-- by the first, then by the second -/
def pairc {α β : Type} (f : α → α → Int) (g : β → β → Int) (x y : α × β) : Int := if f x.1 y.1 = 0 then g x.2 y.2 else f x.1 y.1
theorem good_pair {α β : Type} {f : α → α → Int} {g : β → β → Int} (hf : Good f) (hg : Good g) : Good (pairc f g) := by
  refine ⟨?_, ?_, ?_, ?_⟩
  · rintro ⟨a, b⟩ ⟨c, d⟩
    have := hf.rng a c
    have := hg.rng b d
    unfold pairc
    simp only
    split <;> omega
  · rintro ⟨a, b⟩ ⟨c, d⟩
    unfold pairc
    simp only [Prod.mk.injEq]
    rw [← hf.eq a c, ← hg.eq b d]
    split <;> omega
  · rintro ⟨a, b⟩ ⟨c, d⟩
    have h1 := hf.anti a c
    have h2 := hg.anti b d
    unfold pairc
    simp only
    rw [h1, h2]
    split <;> split <;> omega
  · rintro ⟨a, b⟩ ⟨c, d⟩ ⟨e, k⟩ h1 h2
    unfold pairc at *
    simp only at *
    have r1 := hf.rng a c
    have r2 := hf.rng c e
    have r3 := hg.rng b d
    have r4 := hg.rng d k
    by_cases e1 : f a c = 0
    · have ac := (hf.eq a c).1 e1
      subst ac
      rw [if_pos e1] at h1 ⊢
      by_cases e2 : f a e = 0
      · simp only [if_pos e2] at h2 ⊢
        exact hg.tr b d k h1 h2
      · simp only [if_neg e2] at h2 ⊢
        omega
    · rw [if_neg e1] at h1 ⊢
      by_cases e2 : f c e = 0
      · have ce := (hf.eq c e).1 e2
        subst ce
        rw [if_neg e1, if_pos e2] at *
        omega
      · rw [if_neg e2] at h2 ⊢
        have t := hf.tr a c e h1 h2
        rw [if_neg (by omega)]
        omega
/-- lists by their elements -/
def lexc {α : Type} (f : α → α → Int) : List α → List α → Int
  | [], [] => 0
  | [], _ :: _ => -1
  | _ :: _, [] => 1
  | a :: l, b :: m => if f a b = 0 then lexc f l m else f a b
theorem good_lex {α : Type} {f : α → α → Int} (hf : Good f) : Good (lexc f) := by
  have rng : ∀ x y, lexc f x y = -1 ∨ lexc f x y = 0 ∨ lexc f x y = 1 := by
    intro x
    induction x with
    | nil => intro y; cases y <;> simp [lexc]
    | cons a l ih =>
      intro y
      cases y with
      | nil => simp [lexc]
      | cons b m =>
        have := hf.rng a b
        have := ih m
        rw [lexc]
        split <;> omega
  refine ⟨rng, ?_, ?_, ?_⟩
  · intro x
    induction x with
    | nil => intro y; cases y <;> simp [lexc]
    | cons a l ih =>
      intro y
      cases y with
      | nil => simp [lexc]
      | cons b m =>
        rw [lexc, List.cons.injEq, ← hf.eq a b, ← ih m]
        split <;> omega
  · intro x
    induction x with
    | nil => intro y; cases y <;> simp [lexc]
    | cons a l ih =>
      intro y
      cases y with
      | nil => simp [lexc]
      | cons b m =>
        rw [lexc, lexc, hf.anti a b, ih m]
        split <;> split <;> omega
  · intro x
    induction x with
    | nil =>
      intro y z h1 h2
      cases y with
      | nil =>
        cases z with
        | nil => simp [lexc]
        | cons c n => simp only [lexc]; decide
      | cons b m =>
        cases z with
        | nil => simp [lexc] at h2
        | cons c n =>
          have := rng (b :: m) (c :: n)
          simp only [lexc] at *
          omega
    | cons a l ih =>
      intro y z h1 h2
      cases y with
      | nil => simp [lexc] at h1
      | cons b m =>
        cases z with
        | nil => simp [lexc] at h2
        | cons c n =>
          have r1 := hf.rng a b
          have r2 := hf.rng b c
          have r3 := rng l m
          have r4 := rng m n
          simp only [lexc] at h1 h2 ⊢
          by_cases e1 : f a b = 0
          · have ab := (hf.eq a b).1 e1
            subst ab
            rw [if_pos e1] at h1 ⊢
            by_cases e2 : f a c = 0
            · simp only [if_pos e2] at h2 ⊢
              exact ih m n h1 h2
            · simp only [if_neg e2] at h2 ⊢
              omega
          · rw [if_neg e1] at h1 ⊢
            by_cases e2 : f b c = 0
            · have bc := (hf.eq b c).1 e2
              subst bc
              rw [if_neg e1, if_pos e2]
              rw [if_pos e2] at h2
              omega
            · rw [if_neg e2] at h2 ⊢
              have t := hf.tr a b c h1 h2
              rw [if_neg (by omega)]
              omega
theorem good_map {α β : Type} {f : α → α → Int} (h : Good f) (g : β → α) (hg : ∀ x y, g x = g y → x = y) : Good (fun x y => f (g x) (g y)) :=
  ⟨fun _ _ => h.rng _ _, fun x y => ⟨fun e => hg x y ((h.eq _ _).1 e), fun e => by rw [e]; exact h.self _⟩, fun _ _ => h.anti _ _, fun _ _ _ => h.tr _ _ _⟩
def cmpU (a b : UInt8) : Int := Lib.compareInt a.toNat b.toNat
theorem good_u8 : Good cmpU := good_map good_int (fun a : UInt8 => (a.toNat : Int)) (fun x y h => UInt8.toNat_inj.1 (by omega))
theorem bytesLess_lex : ∀ x y : List UInt8, Op.bytesLess x y = decide (lexc cmpU x y = -1)
  | [], [] => by simp [Op.bytesLess, lexc]
  | _ :: _, [] => by simp [Op.bytesLess, lexc]
  | [], _ :: _ => by simp [Op.bytesLess, lexc]
  | a :: x, b :: y => by
    rw [Op.bytesLess, bytesLess_lex x y, lexc]
    have hab : (a == b) = decide (cmpU a b = 0) := by
      rw [Bool.eq_iff_iff]; simp [good_u8.eq a b]
    have hlt : decide (a < b) = decide (cmpU a b = -1) := by
      rw [Bool.eq_iff_iff]
      rw [decide_eq_true_eq, decide_eq_true_eq, UInt8.lt_iff_toNat_lt, cmpU, Lib.compareInt]
      by_cases h : (a.toNat : Int) < b.toNat
      · rw [if_pos h]; exact ⟨fun _ => rfl, fun _ => by omega⟩
      · rw [if_neg h]
        refine ⟨fun h' => absurd (by omega) h, fun h' => ?_⟩
        split at h' <;> cases h'
    rw [hab, hlt]
    by_cases e : cmpU a b = 0
    · simp [e]
    · simp [e]
theorem cmpB_lex (x y : ByteArray) : cmpB x y = lexc cmpU x.toList y.toList := by
  have g := good_lex good_u8
  have r := g.rng x.toList y.toList
  have e : (x = y) ↔ (x.toList = y.toList) := by
    have := str_beq x y
    constructor
    · intro h; rw [h]
    · intro h; rw [h] at this; simpa using this
  unfold cmpB
  rw [bytesLess_lex]
  simp only [decide_eq_true_eq, e, ← g.eq]
  split
  · omega
  · split <;> omega
theorem good_bytes : Good cmpB := by
  have : cmpB = fun x y => lexc cmpU x.toList y.toList := by funext x y; exact cmpB_lex x y
  rw [this]
  refine good_map (good_lex good_u8) ByteArray.toList (fun x y h => ?_)
  have := str_beq x y
  rw [h] at this
  simpa using this
abbrev EKey := Int × ByteArray × ByteArray × ByteArray
def ekey (E : Edg) : EKey := (E.tm, E.f, E.t, E.l)
def kcmp : EKey → EKey → Int := pairc Lib.compareInt (pairc cmpB (pairc cmpB cmpB))
theorem good_key : Good kcmp := good_pair good_int (good_pair good_bytes (good_pair good_bytes good_bytes))
theorem ecmp_key (A B : Edg) : ecmp A B = kcmp (ekey A) (ekey B) := by
  unfold ecmp kcmp ekey pairc
  simp only [orL]
  split
  · split
    · split
      · split
        · rename_i h; exact h.symm
        · rfl
      · rfl
    · rfl
  · rfl
def aheadB (A B : Edg) : Bool := decide (ecmp A B = -1)
theorem ecmp_ahead (A B : Edg) : ecmp A B = if aheadB A B = true then -1 else if aheadB B A = true then 1 else 0 := by
  have r := good_key.rng (ekey A) (ekey B)
  have a := good_key.anti (ekey A) (ekey B)
  rw [← ecmp_key] at r a
  rw [← ecmp_key] at a
  simp only [aheadB, decide_eq_true_eq]
  split
  · assumption
  · split <;> omega
theorem less_cmp (x y : ByteArray) : Op.bytesLess x.toList y.toList = decide (cmpB x y = -1) := by
  rw [Bool.eq_iff_iff, decide_eq_true_eq]
  unfold cmpB
  constructor
  · intro h; rw [if_pos h]
  · intro h
    split at h
    · assumption
    · split at h <;> cases h
theorem int_cmp (x y : Int) : decide (x < y) = decide (Lib.compareInt x y = -1) := by
  rw [Bool.eq_iff_iff, decide_eq_true_eq, decide_eq_true_eq]
  unfold Lib.compareInt
  constructor
  · intro h; rw [if_pos h]
  · intro h
    split at h
    · assumption
    · split at h <;> cases h
theorem cmpB_ne {x y : ByteArray} (h : x ≠ y) : cmpB x y ≠ 0 := fun e => h ((good_bytes.eq x y).1 e)
theorem cmpI_ne {x y : Int} (h : x ≠ y) : Lib.compareInt x y ≠ 0 := fun e => h ((good_int.eq x y).1 e)
end Go.Proofs.Ythhmmjpgefinmaa
