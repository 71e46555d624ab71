/- laid together: EdgeC -/
import Derived.Test.YthhmmjpgefinmaaEdgeB
/- edges: why an edge is not right -/
namespace Go.Proofs.Ythhmmjpgefinmaa
set_option linter.unusedVariables false
set_option linter.unusedSimpArgs false
open Go.RowKit Go.Shelf
attribute [local go_sem] Oper.semAt_some

/-- an edge: v is the slice of its props -/
structure Edg where
  f : ByteArray
  t : ByteArray
  l : ByteArray
  tm : Int
  v : Value
  ps : List Prp
def ecells (E : Edg) : List Value := [.string E.f, .string E.t, .string E.l, .int .i64 E.tm, E.v]
def ev (E : Edg) : Value := .agg #[.string E.f, .string E.t, .string E.l, .int .i64 E.tm, E.v]
structure EdgAt (W : World) (E : Edg) : Prop where
  rdr : Rdr W 4 E.v E.ps.length (pcells E.ps)
  n : E.ps.length ≤ 4398046511104
  ps : PSz E.ps
  f : E.f.size ≤ maxLen
  t : E.t.size ≤ maxLen
  l : E.l.size ≤ maxLen
theorem EdgAt.g {W W' : World} {E : Edg} (h : EdgAt W E) (hg : G W W') : EdgAt W' E := ⟨h.rdr.g hg, h.n, h.ps, h.f, h.t, h.l⟩
theorem EdgAt.fr {S : Nat → Prop} {W W' : World} {E : Edg} (h : EdgAt W E) (hf : Fr S W W') (hs : ∀ g, E.v.ownBlock = some g → ¬ S g) : EdgAt W' E := ⟨h.rdr.fr hf hs, h.n, h.ps, h.f, h.t, h.l⟩
def checkP (f t l : ByteArray) (tm : Int) (ps : List Prp) : Int := if (vertexB f && vertexB t && freeB l && propsB ps) = true then (if timeB tm = true then 0 else 6) else 2
def checkE (E : Edg) : Int := checkP E.f E.t E.l E.tm E.ps
theorem props_is (ps : List Prp) (b : Bool) (v : Value) (w : World) (hv : Rdr w 4 v ps.length (pcells ps)) (hn : ps.length ≤ 4398046511104) (hz : PSz ps) (h : propsB ps = b) :
    Calls Try.prog 59 #[v] w fun e w' => e = .returned (.bool b) ∧ G w w' := by rw [← h]; exact props_any ps v w hv hn hz
theorem time_is (a : Int) (b : Bool) (w : World) (h : timeB a = b) : Calls Try.prog 60 #[.int .i64 a] w fun e w' => e = .returned (.bool b) ∧ G w w' := by rw [← h]; exact time_any a w
theorem rTime_is (a : Int) (b : Bool) (w : World) (h : timeB a = b) : Calls Try.prog 41 #[.int .i64 a] w fun e w' => e = .returned (.bool b) ∧ w = w' := by rw [← h]; exact rTime_any a w
theorem check_any (E : Edg) (w : World) (h : EdgAt w E) : Calls Try.prog 47 #[ev E] w fun e w' => e = .returned (.int .i64 (checkE E)) ∧ G w w' := by
  obtain ⟨f, t, l, tm, v, ps⟩ := E
  obtain ⟨-, vp, vc, hvv, -⟩ := id h.rdr
  simp only at hvv
  subst hvv
  obtain ⟨hr, hn, hz, hf, ht, hl⟩ := h
  simp only at hr hn hz hf ht hl
  obtain ⟨n, hnn⟩ : ∃ n, n = ps.length := ⟨_, rfl⟩
  have HC := Lib.hid (show checkE ⟨f, t, l, tm, .slice vp ps.length vc, ps⟩ = checkP f t l tm ps from rfl)
  have hr2 : ∀ W, G w W → Rdr W 4 (.slice vp n vc) ps.length (pcells ps) := fun W hW => by rw [hnn]; exact hr.g hW
  have HR := Lib.hid hr2
  have HZ := Lib.hid hz
  rw [← hnn] at hr hn HC ⊢
  have HN := Lib.hid hnn
  unfold ev
  simp only
  have hgA : G w (w.alloc (.cells #[.string f, .string t, .string l, .int .i64 tm, .slice vp n vc] 51)) := (G.refl w).alloc _
  have c0 := cell_alloc_at w [.string f, .string t, .string l, .int .i64 tm, .slice vp n vc] 51 (0, 0) 0 _ rfl
  have c1 := cell_alloc_at w [.string f, .string t, .string l, .int .i64 tm, .slice vp n vc] 51 (0, 0) 1 _ rfl
  have c2 := cell_alloc_at w [.string f, .string t, .string l, .int .i64 tm, .slice vp n vc] 51 (0, 0) 2 _ rfl
  have c3 := cell_alloc_at w [.string f, .string t, .string l, .int .i64 tm, .slice vp n vc] 51 (0, 0) 3 _ rfl
  have c4 := cell_alloc_at w [.string f, .string t, .string l, .int .i64 tm, .slice vp n vc] 51 (0, 0) 4 _ rfl
  simp only [Nat.zero_add] at c0 c1 c2 c3 c4
  clear hnn hr hr2 hz
  go_enter Try.func47, Try.ntmps47
  go_upto_region 1 with fail
  generalize (w.alloc (.cells #[.string f, .string t, .string l, .int .i64 tm, .slice vp n vc] 51)) = W0 at hgA c0 c1 c2 c3 c4 ⊢
  cases hv1 : vertexB f
  · have H2 := Lib.hid (show checkE ⟨f, t, l, tm, .slice vp n vc, ps⟩ = 2 by rw [HC.out, checkP, hv1]; simp)
    have HF := Lib.hid (vertex_is f false W0 hf hv1)
    clear hv1 HC
    go_wp2_with fail
    refine HF.out.mono ?_
    rintro e w1 ⟨rfl, hg⟩
    have hgE := hgA.trans hg
    clear HF hg c0 c1 c2 c3 c4
    go_wp2_with fail
    go_ret
    exact ⟨by rw [H2.out]; rfl, hgE⟩
  have HF := Lib.hid (vertex_is f true W0 hf hv1)
  go_wp2_with fail
  refine HF.out.mono ?_
  rintro e W1 ⟨rfl, hgx⟩
  have hg1 := hgA.trans hgx
  have c0 := hgx.cell c0
  have c1 := hgx.cell c1
  have c2 := hgx.cell c2
  have c3 := hgx.cell c3
  have c4 := hgx.cell c4
  clear HF hgx
  cases hv2 : vertexB t
  · have H2 := Lib.hid (show checkE ⟨f, t, l, tm, .slice vp n vc, ps⟩ = 2 by rw [HC.out, checkP, hv1, hv2]; simp)
    have HF := Lib.hid (vertex_is t false W1 ht hv2)
    clear hv1 hv2 HC
    go_wp2_with fail
    refine HF.out.mono ?_
    rintro e w1 ⟨rfl, hg⟩
    have hgE := hg1.trans hg
    clear HF hg c0 c1 c2 c3 c4
    go_wp2_with fail
    go_ret
    exact ⟨by rw [H2.out]; rfl, hgE⟩
  have HF := Lib.hid (vertex_is t true W1 ht hv2)
  go_wp2_with fail
  refine HF.out.mono ?_
  rintro e W2 ⟨rfl, hgx⟩
  have hg2 := hg1.trans hgx
  have c0 := hgx.cell c0
  have c1 := hgx.cell c1
  have c2 := hgx.cell c2
  have c3 := hgx.cell c3
  have c4 := hgx.cell c4
  clear HF hgx
  cases hv3 : freeB l
  · have H2 := Lib.hid (show checkE ⟨f, t, l, tm, .slice vp n vc, ps⟩ = 2 by rw [HC.out, checkP, hv1, hv2, hv3]; simp)
    have HF := Lib.hid (free_is l false W2 hl hv3)
    clear hv1 hv2 hv3 HC
    go_wp2_with fail
    refine HF.out.mono ?_
    rintro e w1 ⟨rfl, hg⟩
    have hgE := hg2.trans hg
    clear HF hg c0 c1 c2 c3 c4
    go_wp2_with fail
    go_ret
    exact ⟨by rw [H2.out]; rfl, hgE⟩
  have HF := Lib.hid (free_is l true W2 hl hv3)
  go_wp2_with fail
  refine HF.out.mono ?_
  rintro e W3 ⟨rfl, hgx⟩
  have hg3 := hg2.trans hgx
  have c0 := hgx.cell c0
  have c1 := hgx.cell c1
  have c2 := hgx.cell c2
  have c3 := hgx.cell c3
  have c4 := hgx.cell c4
  clear HF hgx
  cases hv4 : propsB ps
  · have H2 := Lib.hid (show checkE ⟨f, t, l, tm, .slice vp n vc, ps⟩ = 2 by rw [HC.out, checkP, hv1, hv2, hv3, hv4]; simp)
    have HF := Lib.hid (props_is ps false (.slice vp n vc) W3 (HR.out _ hg3) (by have := HN.out; omega) HZ.out hv4)
    clear hv1 hv2 hv3 hv4 HC
    go_wp2_with fail
    refine HF.out.mono ?_
    rintro e w1 ⟨rfl, hg⟩
    have hgE := hg3.trans hg
    clear HF hg c0 c1 c2 c3 c4
    go_wp2_with fail
    go_ret
    exact ⟨by rw [H2.out]; rfl, hgE⟩
  have HF := Lib.hid (props_is ps true (.slice vp n vc) W3 (HR.out _ hg3) (by have := HN.out; omega) HZ.out hv4)
  go_wp2_with fail
  refine HF.out.mono ?_
  rintro e W4 ⟨rfl, hgx⟩
  have hg4 := hg3.trans hgx
  have c0 := hgx.cell c0
  have c1 := hgx.cell c1
  have c2 := hgx.cell c2
  have c3 := hgx.cell c3
  have c4 := hgx.cell c4
  clear HF hgx
  cases hv5 : timeB tm
  · have H2 := Lib.hid (show checkE ⟨f, t, l, tm, .slice vp n vc, ps⟩ = 6 by rw [HC.out, checkP, hv1, hv2, hv3, hv4, hv5]; simp)
    have HF := Lib.hid (time_is tm false W4 hv5)
    clear hv1 hv2 hv3 hv4 hv5 HC
    go_wp2_with fail
    refine HF.out.mono ?_
    rintro e w1 ⟨rfl, hg⟩
    have hgE := hg4.trans hg
    clear HF hg c0 c1 c2 c3 c4
    go_wp2_with fail
    go_ret
    exact ⟨by rw [H2.out]; rfl, hgE⟩
  have HF := Lib.hid (time_is tm true W4 hv5)
  go_wp2_with fail
  refine HF.out.mono ?_
  rintro e W5 ⟨rfl, hgx⟩
  have hg5 := hg4.trans hgx
  have c0 := hgx.cell c0
  have c1 := hgx.cell c1
  have c2 := hgx.cell c2
  have c3 := hgx.cell c3
  have c4 := hgx.cell c4
  clear HF hgx
  have H2 := Lib.hid (show checkE ⟨f, t, l, tm, .slice vp n vc, ps⟩ = 0 by rw [HC.out, checkP, hv1, hv2, hv3, hv4, hv5]; simp)
  clear HC hv1 hv2 hv3 hv4 hv5
  go_wp2_with fail
  go_ret
  exact ⟨by rw [H2.out]; rfl, hg5⟩
end Go.Proofs.Ythhmmjpgefinmaa
