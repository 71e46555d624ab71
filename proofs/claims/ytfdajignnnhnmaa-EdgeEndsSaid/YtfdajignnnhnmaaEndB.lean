/- EdgeEnds: the walk -/
import Derived.Test.YtfdajignnnhnmaaEndA
namespace Go.Proofs.Ytfdajignnnhnmaa
set_option linter.unusedVariables false
set_option linter.unusedSimpArgs false
open Go.RowKit Go.Shelf
attribute [local go_sem] Oper.semAt_some

theorem cells3t {W : World} {R : Nat} {ty : TypeId} {v0 v1 v2 : Value} (h : W.heap[R]? = some (.cells #[v0, v1, v2] ty (0, 0))) :
    W.cell? ⟨R, 0, none⟩ = some v0 ∧ W.cell? ⟨R, 1, none⟩ = some v1 ∧ W.cell? ⟨R, 2, none⟩ = some v2 := by
  unfold World.cell?; rw [h]; exact ⟨rfl, rfl, rfl⟩
/-- the good edge's props -/
def gps : List Prp := [(⟨#[107]⟩, 1, -3, ⟨#[]⟩), (⟨#[108]⟩, 2, 0, ⟨#[113, 32, 114]⟩)]
def goodE (b : Nat) : Edg := ⟨⟨#[97, 49]⟩, ⟨#[55]⟩, ⟨#[120, 95, 121]⟩, 258, .slice (some ⟨b, 0, none⟩) 2 2, gps⟩
def nms : List ByteArray := [⟨#[]⟩, ⟨#[97]⟩, ⟨#[49]⟩, ⟨#[95]⟩, ⟨#[65]⟩, ⟨#[97, 32, 98]⟩, ⟨#[109, 97, 116, 99, 104]⟩, ⟨#[97, 115]⟩, ⟨#[97, 97, 97, 97, 97, 97, 97, 97, 97, 97, 97, 97, 97, 97, 97, 97, 97, 97, 97, 97]⟩, ⟨#[97, 97, 97, 97, 97, 97, 97, 97, 97, 97, 97, 97, 97, 97, 97, 97, 97, 97, 97, 97, 97]⟩]
def tms : List Int := [-9223372036854775808, -1, 0, 1, 1099511627776, 1099511627777, 9223372036854775807]
theorem nms_size : ∀ s ∈ nms, s.size ≤ 100 := by decide +kernel
theorem goodE_at (W : World) : EdgAt (W.alloc (.cells (pcells gps).toArray 56)) (goodE W.heap.size) := by
  refine ⟨rdr_alloc W (pcells gps) 56 (0, 0) 4 2 2 rfl, by show (2 : Nat) ≤ _; omega, ?_, by show (2 : Nat) ≤ _; unfold maxLen; omega, by show (1 : Nat) ≤ _; unfold maxLen; omega, by show (3 : Nat) ≤ _; unfold maxLen; omega⟩
  exact two_mem ⟨by show (1 : Nat) ≤ _; unfold maxLen; omega, Nat.zero_le _⟩ ⟨by show (1 : Nat) ≤ _; unfold maxLen; omega, by show (3 : Nat) ≤ _; unfold maxLen; omega⟩
/-- what stays: the text's box, the good edge and its box, the names, the times -/
structure Kp (X : World) (bt bg bp bn bm : Nat) : Prop where
  t : X.heap[bt]? = some (.cells #[.int .i64 2, .int .i64 0, .string ⟨#[113, 32, 114]⟩] 43 (0, 0))
  b : X.heap[bg]? = some (.cells #[.string ⟨#[97, 49]⟩, .string ⟨#[55]⟩, .string ⟨#[120, 95, 121]⟩, .int .i64 258, .slice (some ⟨bp, 0, none⟩) 2 2] 27 (0, 0))
  e : EdgAt X (goodE bp)
  n : ∀ i s, nms[i]? = some s → X.cell? ⟨bn, i, none⟩ = some (.string s)
  m : ∀ i x, tms[i]? = some x → X.cell? ⟨bm, i, none⟩ = some (.int .i64 x)
theorem Kp.g {X Y : World} {bt bg bp bn bm : Nat} (h : Kp X bt bg bp bn bm) (hg : G X Y) : Kp Y bt bg bp bn bm :=
  ⟨(hg.block (heap_lt h.t)).trans h.t, (hg.block (heap_lt h.b)).trans h.b, h.e.g hg, fun i s hs => hg.cell (h.n i s hs), fun i s hs => hg.cell (h.m i s hs)⟩
theorem nms_at {i : Nat} (h : i < 10) : ∃ s, nms[i]? = some s ∧ s.size ≤ maxLen := by
  have hi : i < nms.length := h
  exact ⟨nms[i], List.getElem?_eq_getElem hi, by have := nms_size _ (List.getElem_mem hi); unfold maxLen; omega⟩
theorem tms_at {i : Nat} (h : i < 7) : ∃ x, tms[i]? = some x := ⟨_, List.getElem?_eq_getElem (show i < tms.length from h)⟩
/-- one more edge behind a row -/
theorem row_more {X Y : World} {base k c c' : Nat} {p p' : Option Addr} {L : List Edg} {F : Edg} (hL : X.ownsRow base 27 5 (.slice p k c) k (ecs L)) (hE : ∀ E ∈ L, OwnE X base E ∧ E.ps.length = 2) (hF : OwnE X base F) (h2 : F.ps.length = 2)
    (hr : Y.ownsRow base 27 5 (.slice p' (k + 1) c') (k + 1) (ecs L ++ ecs [F])) (hg : X.grownBy Y (Value.slice p k c).ownBlock) : Y.ownsRow base 27 5 (.slice p' (k + 1) c') (k + 1) (ecs (L ++ [F])) ∧ ∀ E ∈ L ++ [F], OwnE Y base E ∧ E.ps.length = 2 := by
  have hap : ∀ E, OwnE X base E → OwnE Y base E := fun E hE => hE.fr (grownBy_fr hg) (fun q hq e => apart_ep hE hL e q hq rfl)
  refine ⟨by rw [ecs_app]; exact hr, fun E hE2 => ?_⟩
  rcases List.mem_append.1 hE2 with h | h
  · exact ⟨hap E (hE E h).1, (hE E h).2⟩
  · rw [List.mem_singleton.1 h]; exact ⟨hap F hF, h2⟩
theorem row_six {X : World} {base c : Nat} {p : Option Addr} {L : List Edg} (h : X.ownsRow base 27 5 (.slice p 6 c) 6 (ecs L)) (hE : ∀ E ∈ L, OwnE X base E ∧ E.ps.length = 2) : ∃ g, p = some ⟨g, 0, none⟩ ∧ EdRow X base g 6 c L := by
  rcases id h.2 with ⟨-, h0⟩ | ⟨g, cap, cur, hv, -⟩
  · cases h0
  · cases hv
    exact ⟨g, rfl, h, fun E h => (hE E h).1, fun E h => (hE E h).2⟩
theorem put_small (E : Edg) : (putE E).length ≤ 1000 := by
  by_cases h : checkE E = 0
  · exact putE_len h
  · rw [show putE E = [] from if_neg h]; simp
theorem rdr_take1 {W : World} {p : Option Addr} {n c i : Nat} {l : List UInt8} (h : Rdr W 1 (.slice p n c) n (bys l)) (hi : i ≤ n) : Rdr W 1 (.slice p i c) i (bys (l.take i)) := by
  have hl := h.1
  rw [bys_len] at hl
  refine ⟨by rw [bys_len, List.length_take]; omega, _, _, rfl, fun h0 => ?_⟩
  obtain ⟨b, o, rfl, hcell⟩ := h.one (by omega)
  refine ⟨b, o, rfl, fun j u hu => hcell j u ?_⟩
  rw [bys_take, List.getElem?_take] at hu
  split at hu
  · exact hu
  · cases hu
theorem bys_set (l : List UInt8) (i : Nat) (b : UInt8) : bys (l.set i b) = (bys l).set i (.int .u8 b.toNat) := by simp [bys, List.map_set]
def lits : List UInt8 := [0, 1, 2, 3, 34, 127, 128, 255]
theorem lits_at {k : Nat} (h : k < 8) : ∃ b, lits[k]? = some b := ⟨_, List.getElem?_eq_getElem (show k < lits.length from h)⟩
theorem conv_one (w : World) (i : Nat) (hi : i < 10) : ∃ s : ByteArray, s.size = 1 ∧ (convert 22 9 (.slice (some ⟨w.heap.size, 0, none⟩) 1 1)).run Try.prog (w.alloc (.cells #[.int .u8 (97 + (i : Int))] 5)) = .ok (.string s) (w.alloc (.cells #[.int .u8 (97 + (i : Int))] 5)) := by
  have h : bys [UInt8.ofNat (97 + i)] = [.int .u8 (97 + (i : Int))] := by simp [bys]; omega
  have h2 := conv_bys (w.alloc (.cells (bys [UInt8.ofNat (97 + i)]).toArray 5)) [UInt8.ofNat (97 + i)] 1 (.slice (some ⟨w.heap.size, 0, none⟩) 1 1) (rdr_alloc w (bys [UInt8.ofNat (97 + i)]) 5 (0, 0) 1 1 1 rfl)
  rw [h] at h2
  exact ⟨_, rfl, h2⟩
theorem u8_in (i : Nat) (hi : i < 10) : IntKind.u8.wrap (97 + (i : Int)) = 97 + (i : Int) := by
  have : ∀ k : Nat, k < 10 → IntKind.u8.wrap (97 + (k : Int)) = 97 + (k : Int) := by decide
  exact this i hi
set_option maxRecDepth 10000 in
set_option maxHeartbeats 8000000 in
theorem edgeEnds_any (w : World) : Calls Try.prog 8 #[] w fun e w' => e = .returned (.bool true) ∧ G w w' := by
  obtain ⟨i0, hi, hz0, hz1, hz2⟩ := info_parts infoE
  obtain ⟨j0, hj, hy0, hy1, hy2⟩ := info_parts infoP
  obtain ⟨k0, hk, hx0, hx1, hx2⟩ := info_parts infoB
  have HI := Lib.hid (And.intro hi (And.intro hz0 (And.intro hz1 hz2)))
  have HJ := Lib.hid (And.intro hj (And.intro hy0 (And.intro hy1 hy2)))
  have HK9 := Lib.hid (And.intro hk (And.intro hx0 (And.intro hx1 hx2)))
  clear hi hz0 hz1 hz2 hj hy0 hy1 hy2 hk hx0 hx1 hx2
  obtain ⟨W1, hW1⟩ : ∃ X : World, X = (w.alloc (.cells #[.int .i64 1, .int .i64 (-3), .string ⟨#[]⟩] 43)).alloc (.cells #[.int .i64 2, .int .i64 0, .string ⟨#[113, 32, 114]⟩] 43) := ⟨_, rfl⟩
  obtain ⟨g1, t1, t2⟩ := boxes w #[.int .i64 1, .int .i64 (-3), .string ⟨#[]⟩] #[.int .i64 2, .int .i64 0, .string ⟨#[113, 32, 114]⟩] 43
  rw [← hW1] at g1 t1 t2
  have HW1 := Lib.hid hW1
  have HT2 := Lib.hid t2
  have HG1 := Lib.hid g1
  obtain ⟨n0, n1, n2⟩ := cells3t t1
  obtain ⟨x0, x1, x2⟩ := cells3t t2
  clear hW1 t1 t2 g1
  go_enter Try.func8, Try.ntmps8
  go_upto_region 2 with fail
  rw [← HW1.out]
  obtain ⟨bt, hbt⟩ : ∃ b, b = w.heap.size + 1 := ⟨_, rfl⟩
  rw [← hbt] at HT2 x0 x1 x2 ⊢
  clear hbt HW1
  go_upto_region 3 with fail
  obtain ⟨W2, hW2⟩ : ∃ X : World, X = (W1.alloc (.cells (pcells gps).toArray 56)).alloc (.cells #[.string ⟨#[97, 49]⟩, .string ⟨#[55]⟩, .string ⟨#[120, 95, 121]⟩, .int .i64 258, .slice (some ⟨W1.heap.size, 0, none⟩) 2 2] 27) := ⟨_, rfl⟩
  have hW2' := hW2
  simp only [pcells, gps] at hW2'
  rw [← hW2']
  clear hW2' n0 n1 n2 x0 x1 x2
  obtain ⟨bp, hbp⟩ : ∃ b, b = W1.heap.size := ⟨_, rfl⟩
  obtain ⟨bg, hbg⟩ : ∃ b, b = W1.heap.size + 1 := ⟨_, rfl⟩
  have KP2 := Lib.hid (show (W2.heap[bt]? = some (.cells #[.int .i64 2, .int .i64 0, .string ⟨#[113, 32, 114]⟩] 43 (0, 0))) ∧ (W2.heap[bg]? = some (.cells #[.string ⟨#[97, 49]⟩, .string ⟨#[55]⟩, .string ⟨#[120, 95, 121]⟩, .int .i64 258, .slice (some ⟨bp, 0, none⟩) 2 2] 27 (0, 0))) ∧ EdgAt W2 (goodE bp) ∧ G w W2 from by
    obtain ⟨g2, p1, p2⟩ := boxes W1 (pcells gps).toArray #[.string ⟨#[97, 49]⟩, .string ⟨#[55]⟩, .string ⟨#[120, 95, 121]⟩, .int .i64 258, .slice (some ⟨W1.heap.size, 0, none⟩) 2 2] 27
    have g2' : G W1 W2 := by rw [hW2]; exact ((G.refl W1).alloc _).alloc _
    refine ⟨(g2'.block (heap_lt HT2.out)).trans HT2.out, ?_, ?_, HG1.out.trans g2'⟩
    · rw [hW2, hbg, hbp]
      have h9 := alloc_new (W1.alloc (.cells (pcells gps).toArray 56)) (.cells #[.string ⟨#[97, 49]⟩, .string ⟨#[55]⟩, .string ⟨#[120, 95, 121]⟩, .int .i64 258, .slice (some ⟨W1.heap.size, 0, none⟩) 2 2] 27)
      rw [World.size_alloc] at h9
      exact h9
    · rw [hW2, hbp]; exact (goodE_at W1).g ((G.refl _).alloc _))
  rw [← hbg, ← hbp]
  clear hW2 hbp hbg HT2 HG1
  go_upto_region 5 with fail
  obtain ⟨W4, hW4⟩ : ∃ X : World, X = (W2.alloc (.cells (nms.map Value.string).toArray 9)).alloc (.cells (tms.map (Value.int .i64)).toArray 3) := ⟨_, rfl⟩
  have hW4' := hW4
  simp only [nms, tms, List.map_cons, List.map_nil] at hW4'
  rw [← hW4']
  clear hW4'
  obtain ⟨bn, hbn⟩ : ∃ b, b = W2.heap.size := ⟨_, rfl⟩
  obtain ⟨bm, hbm⟩ : ∃ b, b = W2.heap.size + 1 := ⟨_, rfl⟩
  have HKP := Lib.hid (show Kp W4 bt bg bp bn bm ∧ G w W4 from by
    obtain ⟨q1, q2, q3, q4⟩ := KP2.out
    have g4 : G W2 W4 := by rw [hW4]; exact ((G.refl W2).alloc _).alloc _
    refine ⟨⟨(g4.block (heap_lt q1)).trans q1, (g4.block (heap_lt q2)).trans q2, q3.g g4, fun i s hs => ?_, fun i x hx => ?_⟩, q4.trans g4⟩
    · rw [hW4, hbn]
      have := cell_alloc_at W2 (nms.map Value.string) 9 (0, 0) i (.string s) (by rw [List.getElem?_map, hs]; rfl)
      rw [Nat.zero_add] at this
      exact ((G.refl _).alloc _).cell this
    · rw [hW4, hbm]
      have := cell_alloc_at (W2.alloc (.cells (nms.map Value.string).toArray 9)) (tms.map (Value.int .i64)) 3 (0, 0) i (.int .i64 x) (by rw [List.getElem?_map, hx]; rfl)
      rw [Nat.zero_add, World.size_alloc] at this
      exact this)
  rw [← hbm, ← hbn]
  clear hW4 hbn hbm KP2
  go_wp2_with fail
  go_loopw [6] (fun iv wr => ∃ i : Nat, i ≤ 10 ∧ iv = .int .i64 i ∧ G W4 wr) (fun iv _ => 10 - (intOf iv).toNat)
  case atStart => exact ⟨0, by omega, rfl, G.refl _⟩
  case round =>
    obtain ⟨i, hin, rfl, hg⟩ := hrel
    obtain ⟨WA, rfl⟩ : ∃ WA : World, WA = wr := ⟨_, rfl⟩
    by_cases hlt : i < 10
    · have hltI : (i : Int) < 10 := by omega
      have hi0 : (0 : Int) ≤ (i : Int) := by omega
      obtain ⟨s, hs, hsz⟩ := nms_at hlt
      have HSZ := Lib.hid hsz
      have HNM := Lib.hid hs
      have KA := Lib.hid (HKP.out.1.g hg)
      clear hs hsz
      go_wp2_with fail
      go_loopw [7, 8] (fun lv kv wr => ∃ (k : Nat) (L : List Edg) (rp : Option Addr) (rc : Nat), k ≤ 6 ∧ lv = .slice rp k rc ∧ kv = .int .i64 k ∧ Hid (wr.ownsRow WA.heap.size 27 5 (.slice rp k rc) k (ecs L) ∧ ∀ E ∈ L, OwnE wr WA.heap.size E ∧ E.ps.length = 2) ∧ G WA wr) (fun _ kv _ => 6 - (intOf kv).toNat)
      case atStart => exact ⟨0, [], none, 0, by omega, rfl, rfl, Lib.hid ⟨World.ownsRow_nil _ _ _ _, fun E hE => by cases hE⟩, G.refl _⟩
      case round =>
        obtain ⟨k, L, rp, rc, hk6, rfl, rfl, HR, hga⟩ := hrel
        by_cases hlk : k < 6
        · have hlkI : (k : Int) < 6 := by omega
          have KW := Lib.hid (KA.out.g hga)
          obtain ⟨a0, a1, a2, a3, a4⟩ := cells5 KW.out.b
          have HCE := Lib.hid (copyE_any (goodE bp) wr KW.out.e (by show (2 : Nat) ≤ _; omega))
          unfold ev lentE goodE at HCE
          simp only at HCE
          go_wp2_with fail
          refine HCE.out.mono ?_
          rintro e w2 ⟨u, rfl, hownu, hg2⟩
          have hown9 : w2.ownsRow wr.heap.size 56 4 u 2 (pcells gps) := hownu.own
          obtain ⟨up, uc, rfl⟩ := ownsRow_shape hown9
          clear hown9
          have HU := Lib.hid hownu
          have hrow := hg2.ownsRow HR.out.1
          have HROW := Lib.hid hrow
          have GA2 := Lib.hid (hga.trans hg2)
          have hWz := (hga.trans hg2).size
          clear hownu hrow a0 a1 a2 a3 a4 HCE
          go_upto_region 11 with (at_builtin; go_loud (refine wpList_appendR _ rfl _ _ 35 rfl WA.heap.size 27 i0 (.agg #[.string ⟨#[]⟩, .string ⟨#[]⟩, .string ⟨#[]⟩, .int .i64 0, .slice none 0 0]) 5 80 Try.underlying35 HI.out.1 HI.out.2.1 HI.out.2.2.1 HI.out.2.2.2 rfl (by decide) (.slice rp k rc) k (ecs L) rfl (HROW.out.alloc _) (.slice (some ⟨w2.heap.size, 0, none⟩) 1 1) 1 (ecs [⟨⟨#[97, 49]⟩, ⟨#[55]⟩, ⟨#[120, 95, 121]⟩, 258, .slice up 2 uc, gps⟩]) rfl (rdr_alloc w2 (ecs [⟨⟨#[97, 49]⟩, ⟨#[55]⟩, ⟨#[120, 95, 121]⟩, 258, .slice up 2 uc, gps⟩]) _ _ 5 1 1 rfl) (ecs_one _ (fun F hF => by rw [List.mem_singleton.1 hF]; exact ⟨_, _, _, rfl⟩)) (by unfold maxLen; omega) (by omega) (by simp; omega) ?_); intro mp mc w3 hown3 hgrow3 hat3)
          have HM := Lib.hid (row_more (X := w2.alloc (.cells #[.string ⟨#[97, 49]⟩, .string ⟨#[55]⟩, .string ⟨#[120, 95, 121]⟩, .int .i64 258, .slice up 2 uc] 27)) (F := ⟨⟨#[97, 49]⟩, ⟨#[55]⟩, ⟨#[120, 95, 121]⟩, 258, .slice up 2 uc, gps⟩) (HROW.out.alloc _) (fun E hE => ⟨(HR.out.2 E hE).1.g (hg2.alloc _), (HR.out.2 E hE).2⟩) (by
            have h9 := HU.out.g ((G.refl w2).alloc (.cells #[.string ⟨#[97, 49]⟩, .string ⟨#[55]⟩, .string ⟨#[120, 95, 121]⟩, .int .i64 258, .slice up 2 uc] 27))
            exact ⟨ownsRow_mono h9.own hga.size, h9.n, h9.ps, h9.f, h9.t, h9.l⟩) rfl hown3 hgrow3)
          have hg3 : G WA w3 := (GA2.out.alloc _).grown hgrow3 (fun q h => (HROW.out.lt q h).1)
          clear hown3 hgrow3 hat3 hg2
          go_wp2_with fail
          go_roundw
          case rel => exact ⟨k + 1, _, mp, mc, by omega, rfl, by go_num, HM, hg3⟩
          case measure => simp [intOf]; omega
        · have hlkI : ¬ (k : Int) < 6 := by omega
          obtain rfl : k = 6 := by omega
          obtain ⟨g, rfl, he⟩ := row_six HR.out.1 HR.out.2
          have HE0 := Lib.hid he
          have KW := Lib.hid (KA.out.g hga)
          have nc := KW.out.n i s HNM.out
          have hbn : bn < WA.heap.size := World.block_lt_of_cell? _ _ (KA.out.n i s HNM.out)
          have hgE := he.ge
          clear he
          have g0 := hga
          obtain ⟨d0, d1, d2, d3, d4⟩ := HE0.out.in.at (k := 0) (by omega)
          simp only [Nat.zero_mul, Nat.zero_add, Nat.one_mul, Nat.reduceMul, Nat.reduceAdd] at d0 d1 d2 d3 d4
          have y0 := HE0.out.in.froz 0
          go_upto_region 14 with fail
          obtain ⟨V1, hV1⟩ : ∃ X : World, X = wr.setCell ⟨g, 0, none⟩ (.string s) := ⟨_, rfl⟩
          rw [← hV1]
          obtain ⟨LV1, hLV1⟩ := HE0.out.setF (k := 0) (by omega) s HSZ.out
          have HE1 := Lib.hid (show EdRow V1 WA.heap.size g 6 rc LV1 by rw [hV1]; exact hLV1)
          have gV1 : G WA V1 := by rw [hV1]; exact g0.setCell hgE _
          have nc := gV1.cell (KA.out.n i s HNM.out)
          clear hV1 hLV1 d0 d1 d2 d3 d4 y0
          obtain ⟨d0, d1, d2, d3, d4⟩ := HE1.out.in.at (k := 1) (by omega)
          simp only [Nat.zero_mul, Nat.zero_add, Nat.one_mul, Nat.reduceMul, Nat.reduceAdd] at d0 d1 d2 d3 d4
          have y0 := HE1.out.in.froz 6
          go_upto_region 15 with fail
          obtain ⟨V2, hV2⟩ : ∃ X : World, X = V1.setCell ⟨g, 6, none⟩ (.string s) := ⟨_, rfl⟩
          rw [← hV2]
          obtain ⟨LV2, hLV2⟩ := HE1.out.setT (k := 1) (by omega) s HSZ.out
          have HE2 := Lib.hid (show EdRow V2 WA.heap.size g 6 rc LV2 by rw [hV2]; exact hLV2)
          have gV2 : G WA V2 := by rw [hV2]; exact gV1.setCell hgE _
          have nc := gV2.cell (KA.out.n i s HNM.out)
          clear hV2 hLV2 d0 d1 d2 d3 d4 y0
          obtain ⟨d0, d1, d2, d3, d4⟩ := HE2.out.in.at (k := 2) (by omega)
          simp only [Nat.zero_mul, Nat.zero_add, Nat.one_mul, Nat.reduceMul, Nat.reduceAdd] at d0 d1 d2 d3 d4
          have y0 := HE2.out.in.froz 12
          go_upto_region 16 with fail
          obtain ⟨V3, hV3⟩ : ∃ X : World, X = V2.setCell ⟨g, 12, none⟩ (.string s) := ⟨_, rfl⟩
          rw [← hV3]
          obtain ⟨LV3, hLV3⟩ := HE2.out.setL (k := 2) (by omega) s HSZ.out
          have HE3 := Lib.hid (show EdRow V3 WA.heap.size g 6 rc LV3 by rw [hV3]; exact hLV3)
          have gV3 : G WA V3 := by rw [hV3]; exact gV2.setCell hgE _
          have nc := gV3.cell (KA.out.n i s HNM.out)
          clear hV3 hLV3 d0 d1 d2 d3 d4 y0
          obtain ⟨h, pc, hpv, hhg, hbh, hhz, hcl, hfz⟩ := HE3.out.pb (k := 3) (by omega)
          obtain ⟨d0, d1, d2, d3, d4⟩ := HE3.out.in.at (k := 3) (by omega)
          simp only [Nat.reduceMul, Nat.reduceAdd] at d4
          rw [hpv] at d4
          obtain ⟨zv, hzv⟩ := hcl 0 (by omega)
          have y0 := hfz 0
          have HHG := Lib.hid (And.intro hhg (And.intro hbh hhz))
          clear hpv hcl hfz hhg hbh hhz d0 d1 d2 d3
          go_upto_region 16 with fail
          obtain ⟨WD, hWD⟩ : ∃ WD : World, WD = V3.drew := ⟨_, rfl⟩
          have hsD : G V3 WD := by rw [hWD]; exact (G.refl V3).drew
          refine region_hlW (fun w' => G V3 w') 10 11 (by kernel_rfl) rfl ?_
          intro Q0 HQ0
          simp only [List.replicate_succ, List.replicate_zero]
          rw [← hWD]
          clear hWD
          refine hl_take_np 0 (by kernel_rfl) (by kernel_rfl) rfl (by kernel_rfl) hsD (v := ?_) ?_ ?_
          rotate_left
          · (rintro x hx; have k4 := hx.cell d4; have k5 := hx.cell nc; clear hx; go_simp; try rfl)
          simp only [Act.put, List.setIfInBounds_toArray, List.set_cons_zero, List.set_cons_succ]
          refine hl_take_np 1 (by kernel_rfl) (by kernel_rfl) rfl (by kernel_rfl) hsD (v := ?_) ?_ ?_
          rotate_left
          · (rintro x hx; have k4 := hx.cell d4; have k5 := hx.cell nc; clear hx; go_simp; try rfl)
          simp only [Act.put, List.setIfInBounds_toArray, List.set_cons_zero, List.set_cons_succ]
          refine hl_take_np 2 (by kernel_rfl) (by kernel_rfl) rfl (by kernel_rfl) hsD (v := ?_) ?_ ?_
          rotate_left
          · (rintro x hx; have k4 := hx.cell d4; have k5 := hx.cell nc; clear hx; go_simp; try rfl)
          simp only [Act.put, List.setIfInBounds_toArray, List.set_cons_zero, List.set_cons_succ]
          refine hl_take_np 3 (by kernel_rfl) (by kernel_rfl) rfl (by kernel_rfl) hsD (v := ?_) ?_ ?_
          rotate_left
          · (rintro x hx; have k4 := hx.cell d4; have k5 := hx.cell nc; clear hx; go_simp; try rfl)
          simp only [Act.put, List.setIfInBounds_toArray, List.set_cons_zero, List.set_cons_succ]
          refine hl_take_np 4 (by kernel_rfl) (by kernel_rfl) rfl (by kernel_rfl) hsD (v := ?_) ?_ ?_
          rotate_left
          · (rintro x hx; have k4 := hx.cell d4; have k5 := hx.cell nc; clear hx; go_simp; try rfl)
          simp only [Act.put, List.setIfInBounds_toArray, List.set_cons_zero, List.set_cons_succ]
          refine hl_take_np 5 (by kernel_rfl) (by kernel_rfl) rfl (by kernel_rfl) hsD (v := ?_) ?_ ?_
          rotate_left
          · (rintro x hx; have k4 := hx.cell d4; have k5 := hx.cell nc; clear hx; go_simp; try rfl)
          simp only [Act.put, List.setIfInBounds_toArray, List.set_cons_zero, List.set_cons_succ]
          refine hl_take_np 6 (by kernel_rfl) (by kernel_rfl) rfl (by kernel_rfl) hsD (v := ?_) ?_ ?_
          rotate_left
          · (rintro x hx; have k4 := hx.cell d4; have k5 := hx.cell nc; clear hx; go_simp; try rfl)
          simp only [Act.put, List.setIfInBounds_toArray, List.set_cons_zero, List.set_cons_succ]
          refine hl_take_np 7 (by kernel_rfl) (by kernel_rfl) rfl (by kernel_rfl) hsD (v := ?_) ?_ ?_
          rotate_left
          · (rintro x hx; have k4 := hx.cell d4; have k5 := hx.cell nc; clear hx; go_simp; try rfl)
          simp only [Act.put, List.setIfInBounds_toArray, List.set_cons_zero, List.set_cons_succ]
          refine hl_stepW 8 (by kernel_rfl) rfl (by kernel_rfl) ?_
          intro K hK
          go_simp
          refine hK _ _ (fun _ => hsD) ?_
          clear hK K
          simp only [Act.put, List.setIfInBounds_toArray, List.set_cons_zero, List.set_cons_succ]
          refine hl_stepW 9 (by kernel_rfl) rfl (by kernel_rfl) ?_
          intro K hK
          go_simp
          refine hK _ _ (fun _ => hsD) ?_
          clear hK K
          simp only [Act.put, List.setIfInBounds_toArray, List.set_cons_zero, List.set_cons_succ]
          have hzv := hsD.cell hzv
          have y0 := (hsD.frozen (p := ⟨h, 0, none⟩) HHG.out.2.2).trans y0
          refine hl_stepW 10 (by kernel_rfl) rfl (by kernel_rfl) ?_
          intro K hK
          go_simp
          refine hK _ _ (fun h => absurd rfl h) ?_
          clear hK K
          simp only [Act.put, List.setIfInBounds_toArray, List.set_cons_zero, List.set_cons_succ]
          refine hl_done (by kernel_rfl) ?_ _
          refine NoPanic.normal (HQ0.out _ _ ?_)
          clear HQ0
          obtain ⟨V4, hV4⟩ : ∃ X : World, X = WD.setCell ⟨h, 0, none⟩ (.string s) := ⟨_, rfl⟩
          rw [← hV4]
          obtain ⟨LV4, hLV4⟩ := (HE3.out.g hsD).setP (h := h) (q := 0) (u := .string s) HHG.out.1 (.inl ⟨by omega, s, HSZ.out, rfl⟩)
          have HE4 := Lib.hid (show EdRow V4 WA.heap.size g 6 rc LV4 by rw [hV4]; exact hLV4)
          have gV4 : G WA V4 := by rw [hV4]; exact (gV3.trans hsD).setCell HHG.out.2.1 _
          have nc := gV4.cell (KA.out.n i s HNM.out)
          clear hV4 hLV4 d4 y0 hzv hsD HHG
          obtain ⟨h, pc, hpv, hhg, hbh, hhz, hcl, hfz⟩ := HE4.out.pb (k := 4) (by omega)
          obtain ⟨d0, d1, d2, d3, d4⟩ := HE4.out.in.at (k := 4) (by omega)
          simp only [Nat.reduceMul, Nat.reduceAdd] at d4
          rw [hpv] at d4
          obtain ⟨zv, hzv⟩ := hcl 7 (by omega)
          have y0 := hfz 7
          have HHG := Lib.hid (And.intro hhg (And.intro hbh hhz))
          clear hpv hcl hfz hhg hbh hhz d0 d1 d2 d3
          go_upto_region 17 with fail
          obtain ⟨WD, hWD⟩ : ∃ WD : World, WD = V4.drew := ⟨_, rfl⟩
          have hsD : G V4 WD := by rw [hWD]; exact (G.refl V4).drew
          refine region_hlW (fun w' => G V4 w') 11 12 (by kernel_rfl) rfl ?_
          intro Q0 HQ0
          simp only [List.replicate_succ, List.replicate_zero]
          rw [← hWD]
          clear hWD
          refine hl_take_np 0 (by kernel_rfl) (by kernel_rfl) rfl (by kernel_rfl) hsD (v := ?_) ?_ ?_
          rotate_left
          · (rintro x hx; have k4 := hx.cell d4; have k5 := hx.cell nc; clear hx; go_simp; try rfl)
          simp only [Act.put, List.setIfInBounds_toArray, List.set_cons_zero, List.set_cons_succ]
          refine hl_take_np 1 (by kernel_rfl) (by kernel_rfl) rfl (by kernel_rfl) hsD (v := ?_) ?_ ?_
          rotate_left
          · (rintro x hx; have k4 := hx.cell d4; have k5 := hx.cell nc; clear hx; go_simp; try rfl)
          simp only [Act.put, List.setIfInBounds_toArray, List.set_cons_zero, List.set_cons_succ]
          refine hl_take_np 2 (by kernel_rfl) (by kernel_rfl) rfl (by kernel_rfl) hsD (v := ?_) ?_ ?_
          rotate_left
          · (rintro x hx; have k4 := hx.cell d4; have k5 := hx.cell nc; clear hx; go_simp; try rfl)
          simp only [Act.put, List.setIfInBounds_toArray, List.set_cons_zero, List.set_cons_succ]
          refine hl_take_np 3 (by kernel_rfl) (by kernel_rfl) rfl (by kernel_rfl) hsD (v := ?_) ?_ ?_
          rotate_left
          · (rintro x hx; have k4 := hx.cell d4; have k5 := hx.cell nc; clear hx; go_simp; try rfl)
          simp only [Act.put, List.setIfInBounds_toArray, List.set_cons_zero, List.set_cons_succ]
          refine hl_take_np 4 (by kernel_rfl) (by kernel_rfl) rfl (by kernel_rfl) hsD (v := ?_) ?_ ?_
          rotate_left
          · (rintro x hx; have k4 := hx.cell d4; have k5 := hx.cell nc; clear hx; go_simp; try rfl)
          simp only [Act.put, List.setIfInBounds_toArray, List.set_cons_zero, List.set_cons_succ]
          refine hl_take_np 5 (by kernel_rfl) (by kernel_rfl) rfl (by kernel_rfl) hsD (v := ?_) ?_ ?_
          rotate_left
          · (rintro x hx; have k4 := hx.cell d4; have k5 := hx.cell nc; clear hx; go_simp; try rfl)
          simp only [Act.put, List.setIfInBounds_toArray, List.set_cons_zero, List.set_cons_succ]
          refine hl_take_np 6 (by kernel_rfl) (by kernel_rfl) rfl (by kernel_rfl) hsD (v := ?_) ?_ ?_
          rotate_left
          · (rintro x hx; have k4 := hx.cell d4; have k5 := hx.cell nc; clear hx; go_simp; try rfl)
          simp only [Act.put, List.setIfInBounds_toArray, List.set_cons_zero, List.set_cons_succ]
          refine hl_take_np 7 (by kernel_rfl) (by kernel_rfl) rfl (by kernel_rfl) hsD (v := ?_) ?_ ?_
          rotate_left
          · (rintro x hx; have k4 := hx.cell d4; have k5 := hx.cell nc; clear hx; go_simp; try rfl)
          simp only [Act.put, List.setIfInBounds_toArray, List.set_cons_zero, List.set_cons_succ]
          refine hl_stepW 8 (by kernel_rfl) rfl (by kernel_rfl) ?_
          intro K hK
          go_simp
          refine hK _ _ (fun _ => hsD) ?_
          clear hK K
          simp only [Act.put, List.setIfInBounds_toArray, List.set_cons_zero, List.set_cons_succ]
          refine hl_stepW 9 (by kernel_rfl) rfl (by kernel_rfl) ?_
          intro K hK
          go_simp
          refine hK _ _ (fun _ => hsD) ?_
          clear hK K
          simp only [Act.put, List.setIfInBounds_toArray, List.set_cons_zero, List.set_cons_succ]
          refine hl_stepW 10 (by kernel_rfl) rfl (by kernel_rfl) ?_
          intro K hK
          go_simp
          refine hK _ _ (fun _ => hsD) ?_
          clear hK K
          simp only [Act.put, List.setIfInBounds_toArray, List.set_cons_zero, List.set_cons_succ]
          have hzv := hsD.cell hzv
          have y0 := (hsD.frozen (p := ⟨h, 7, none⟩) HHG.out.2.2).trans y0
          refine hl_stepW 11 (by kernel_rfl) rfl (by kernel_rfl) ?_
          intro K hK
          go_simp
          refine hK _ _ (fun h => absurd rfl h) ?_
          clear hK K
          simp only [Act.put, List.setIfInBounds_toArray, List.set_cons_zero, List.set_cons_succ]
          refine hl_done (by kernel_rfl) ?_ _
          refine NoPanic.normal (HQ0.out _ _ ?_)
          clear HQ0
          obtain ⟨V5, hV5⟩ : ∃ X : World, X = WD.setCell ⟨h, 7, none⟩ (.string s) := ⟨_, rfl⟩
          rw [← hV5]
          obtain ⟨LV5, hLV5⟩ := (HE4.out.g hsD).setP (h := h) (q := 7) (u := .string s) HHG.out.1 (.inl ⟨by omega, s, HSZ.out, rfl⟩)
          have HE5 := Lib.hid (show EdRow V5 WA.heap.size g 6 rc LV5 by rw [hV5]; exact hLV5)
          have gV5 : G WA V5 := by rw [hV5]; exact (gV4.trans hsD).setCell HHG.out.2.1 _
          have nc := gV5.cell (KA.out.n i s HNM.out)
          clear hV5 hLV5 d4 y0 hzv hsD HHG
          obtain ⟨h, pc, hpv, hhg, hbh, hhz, hcl, hfz⟩ := HE5.out.pb (k := 5) (by omega)
          obtain ⟨d0, d1, d2, d3, d4⟩ := HE5.out.in.at (k := 5) (by omega)
          simp only [Nat.reduceMul, Nat.reduceAdd] at d4
          rw [hpv] at d4
          obtain ⟨zv, hzv⟩ := hcl 4 (by omega)
          have y0 := hfz 4
          have HHG := Lib.hid (And.intro hhg (And.intro hbh hhz))
          clear hpv hcl hfz hhg hbh hhz d0 d1 d2 d3
          go_upto_region 18 with fail
          obtain ⟨WD, hWD⟩ : ∃ WD : World, WD = V5.drew := ⟨_, rfl⟩
          have hsD : G V5 WD := by rw [hWD]; exact (G.refl V5).drew
          refine region_hlW (fun w' => G V5 w') 10 11 (by kernel_rfl) rfl ?_
          intro Q0 HQ0
          simp only [List.replicate_succ, List.replicate_zero]
          rw [← hWD]
          clear hWD
          refine hl_take_np 0 (by kernel_rfl) (by kernel_rfl) rfl (by kernel_rfl) hsD (v := ?_) ?_ ?_
          rotate_left
          · (rintro x hx; have k4 := hx.cell d4; have k5 := hx.cell nc; clear hx; go_simp; try rfl)
          simp only [Act.put, List.setIfInBounds_toArray, List.set_cons_zero, List.set_cons_succ]
          refine hl_take_np 1 (by kernel_rfl) (by kernel_rfl) rfl (by kernel_rfl) hsD (v := ?_) ?_ ?_
          rotate_left
          · (rintro x hx; have k4 := hx.cell d4; have k5 := hx.cell nc; clear hx; go_simp; try rfl)
          simp only [Act.put, List.setIfInBounds_toArray, List.set_cons_zero, List.set_cons_succ]
          refine hl_take_np 2 (by kernel_rfl) (by kernel_rfl) rfl (by kernel_rfl) hsD (v := ?_) ?_ ?_
          rotate_left
          · (rintro x hx; have k4 := hx.cell d4; have k5 := hx.cell nc; clear hx; go_simp; try rfl)
          simp only [Act.put, List.setIfInBounds_toArray, List.set_cons_zero, List.set_cons_succ]
          refine hl_take_np 3 (by kernel_rfl) (by kernel_rfl) rfl (by kernel_rfl) hsD (v := ?_) ?_ ?_
          rotate_left
          · (rintro x hx; have k4 := hx.cell d4; have k5 := hx.cell nc; clear hx; go_simp; try rfl)
          simp only [Act.put, List.setIfInBounds_toArray, List.set_cons_zero, List.set_cons_succ]
          refine hl_take_np 4 (by kernel_rfl) (by kernel_rfl) rfl (by kernel_rfl) hsD (v := ?_) ?_ ?_
          rotate_left
          · (rintro x hx; have k4 := hx.cell d4; have k5 := hx.cell nc; clear hx; go_simp; try rfl)
          simp only [Act.put, List.setIfInBounds_toArray, List.set_cons_zero, List.set_cons_succ]
          refine hl_take_np 5 (by kernel_rfl) (by kernel_rfl) rfl (by kernel_rfl) hsD (v := ?_) ?_ ?_
          rotate_left
          · (rintro x hx; have k4 := hx.cell d4; have k5 := hx.cell nc; clear hx; go_simp; try rfl)
          simp only [Act.put, List.setIfInBounds_toArray, List.set_cons_zero, List.set_cons_succ]
          refine hl_take_np 6 (by kernel_rfl) (by kernel_rfl) rfl (by kernel_rfl) hsD (v := ?_) ?_ ?_
          rotate_left
          · (rintro x hx; have k4 := hx.cell d4; have k5 := hx.cell nc; clear hx; go_simp; try rfl)
          simp only [Act.put, List.setIfInBounds_toArray, List.set_cons_zero, List.set_cons_succ]
          refine hl_take_np 7 (by kernel_rfl) (by kernel_rfl) rfl (by kernel_rfl) hsD (v := ?_) ?_ ?_
          rotate_left
          · (rintro x hx; have k4 := hx.cell d4; have k5 := hx.cell nc; clear hx; go_simp; try rfl)
          simp only [Act.put, List.setIfInBounds_toArray, List.set_cons_zero, List.set_cons_succ]
          refine hl_stepW 8 (by kernel_rfl) rfl (by kernel_rfl) ?_
          intro K hK
          go_simp
          refine hK _ _ (fun _ => hsD) ?_
          clear hK K
          simp only [Act.put, List.setIfInBounds_toArray, List.set_cons_zero, List.set_cons_succ]
          refine hl_stepW 9 (by kernel_rfl) rfl (by kernel_rfl) ?_
          intro K hK
          go_simp
          refine hK _ _ (fun _ => hsD) ?_
          clear hK K
          simp only [Act.put, List.setIfInBounds_toArray, List.set_cons_zero, List.set_cons_succ]
          have hzv := hsD.cell hzv
          have y0 := (hsD.frozen (p := ⟨h, 4, none⟩) HHG.out.2.2).trans y0
          refine hl_stepW 10 (by kernel_rfl) rfl (by kernel_rfl) ?_
          intro K hK
          go_simp
          refine hK _ _ (fun h => absurd rfl h) ?_
          clear hK K
          simp only [Act.put, List.setIfInBounds_toArray, List.set_cons_zero, List.set_cons_succ]
          refine hl_done (by kernel_rfl) ?_ _
          refine NoPanic.normal (HQ0.out _ _ ?_)
          clear HQ0
          obtain ⟨V6, hV6⟩ : ∃ X : World, X = WD.setCell ⟨h, 4, none⟩ (.string s) := ⟨_, rfl⟩
          rw [← hV6]
          obtain ⟨LV6, hLV6⟩ := (HE5.out.g hsD).setP (h := h) (q := 4) (u := .string s) HHG.out.1 (.inl ⟨by omega, s, HSZ.out, rfl⟩)
          have HE6 := Lib.hid (show EdRow V6 WA.heap.size g 6 rc LV6 by rw [hV6]; exact hLV6)
          have gV6 : G WA V6 := by rw [hV6]; exact (gV5.trans hsD).setCell HHG.out.2.1 _
          have nc := gV6.cell (KA.out.n i s HNM.out)
          clear hV6 hLV6 d4 y0 hzv hsD HHG
          clear nc
          have HGE := Lib.hid hgE
          clear g0 gV1 gV2 gV3 gV4 gV5 HE0 HE1 HE2 HE3 HE4 HE5 hgE hga HR KW
          go_wp2_with fail
          go_loopw [9] (fun kv wr => ∃ (k : Nat) (L : List Edg), k ≤ 6 ∧ kv = .int .i64 k ∧ Hid (EdRow wr WA.heap.size g 6 rc L) ∧ G WA wr) (fun kv _ => 6 - (intOf kv).toNat)
          case atStart => exact ⟨0, _, by omega, rfl, HE6, gV6⟩
          case round =>
            obtain ⟨k, M, hk6, rfl, HM, hgb⟩ := hrel
            by_cases hlk : k < 6
            · have hlkI : (k : Int) < 6 := by omega
              have hk0 : (0 : Int) ≤ (k : Int) := by omega
              have KW := Lib.hid (KA.out.g hgb)
              obtain ⟨kq, hk2⟩ : ∃ kq : Nat, kq = (k + 1) % 6 := ⟨_, rfl⟩
              have hk2l : kq < 6 := by omega
              have hk2K : (kq : Int) < 6 := by omega
              have hk2I : ((k : Int) + 1) % 6 = (kq : Int) := by omega
              have hk2J : ((k : Int) + 1).tmod 6 = (kq : Int) := by rw [Int.tmod_eq_emod_of_nonneg (by omega)]; omega
              have hkw : IntKind.i64.wrap (kq : Int) = kq := IntWalk.i64_in _ (by omega)
              have hkw2 : IntKind.i64.wrap ((k : Int) + 1) = (k : Int) + 1 := IntWalk.i64_in _ (by omega)
              clear hk2
              obtain ⟨h, pc, hpv, -⟩ := HM.out.pb (k := k) hlk
              obtain ⟨h2, pc2, hpv2, -⟩ := HM.out.pb (k := kq) hk2l
              obtain ⟨d0, d1, d2, d3, d4⟩ := HM.out.in.at (k := k) hlk
              obtain ⟨u0, u1, u2, u3, u4⟩ := HM.out.in.at (k := kq) hk2l
              obtain ⟨a0, a1, a2, a3, a4⟩ := cells5 KW.out.b
              have nc := KW.out.n i s HNM.out
              have hAt : EdgAt wr (eat M k) := (HM.out.each _ (List.mem_of_getElem? (eat_get (by rw [HM.out.len]; exact hlk)))).at
              have hBt : EdgAt wr (eat M kq) := (HM.out.each _ (List.mem_of_getElem? (eat_get (by rw [HM.out.len]; exact hk2l)))).at
              have HD1 := Lib.hid (fun X (hX : G wr X) => does_any (eat M k) (goodE bp) s X (hAt.g hX) (KW.out.e.g hX))
              have HD2 := Lib.hid (fun X (hX : G wr X) => does_any (goodE bp) (eat M k) ⟨#[107]⟩ X (KW.out.e.g hX) (hAt.g hX))
              have HD3 := Lib.hid (fun X (hX : G wr X) => sorts_any [goodE bp, eat M k, eat M kq, goodE bp] (.slice (some ⟨X.heap.size, 0, none⟩) 4 4) (X.alloc (.cells (ecs [goodE bp, eat M k, eat M kq, goodE bp]).toArray 27)) ⟨rdr_alloc X (ecs [goodE bp, eat M k, eat M kq, goodE bp]) 27 (0, 0) 5 4 4 rfl, fun E hE => by
                simp only [List.mem_cons, List.not_mem_nil, or_false] at hE
                have gX := hX.alloc (.cells (ecs [goodE bp, eat M k, eat M kq, goodE bp]).toArray 27)
                rcases hE with rfl | rfl | rfl | rfl
                · exact KW.out.e.g gX
                · exact hAt.g gX
                · exact hBt.g gX
                · exact KW.out.e.g gX⟩ (by show (4 : Nat) ≤ _; omega))
              have HD4 := Lib.hid hAt
              unfold ev at HD1 HD2
              rw [hpv] at HD1 HD2 d4
              rw [hpv2] at u4
              simp only [ecs, hpv, hpv2] at HD3
              unfold goodE at HD1 HD2 HD3
              simp only [List.length_cons, List.length_nil, Nat.reduceAdd] at HD1 HD2 HD3
              have HPV := Lib.hid (And.intro hpv hpv2)
              clear hpv hpv2 hAt hBt
              go_upto_region 22 with fail
              obtain ⟨WD, hWD⟩ : ∃ WD : World, WD = wr.drew := ⟨_, rfl⟩
              have hsD : G wr WD := by rw [hWD]; exact (G.refl wr).drew
              refine region_hlW (fun w' => G wr w') 99 37 (by kernel_rfl) rfl ?_
              intro Q0 HQ0
              simp only [List.replicate_succ, List.replicate_zero]
              rw [← hWD]
              clear hWD
              refine hl_take_np 0 (by kernel_rfl) (by kernel_rfl) rfl (by kernel_rfl) hsD (v := ?_) ?_ ?_
              rotate_left
              · (rintro x hx; have k0 := hx.cell a0; have l0 := hx.cell u0; have m0 := hx.cell d0; have k1 := hx.cell a1; have l1 := hx.cell u1; have m1 := hx.cell d1; have k2 := hx.cell a2; have l2 := hx.cell u2; have m2 := hx.cell d2; have k3 := hx.cell a3; have l3 := hx.cell u3; have m3 := hx.cell d3; have k4 := hx.cell a4; have l4 := hx.cell u4; have m4 := hx.cell d4; have kn := hx.cell nc; clear hx; go_simp; try rfl)
              simp only [Act.put, List.setIfInBounds_toArray, List.set_cons_zero, List.set_cons_succ]
              refine hl_take_np 1 (by kernel_rfl) (by kernel_rfl) rfl (by kernel_rfl) hsD (v := ?_) ?_ ?_
              rotate_left
              · (rintro x hx; have k0 := hx.cell a0; have l0 := hx.cell u0; have m0 := hx.cell d0; have k1 := hx.cell a1; have l1 := hx.cell u1; have m1 := hx.cell d1; have k2 := hx.cell a2; have l2 := hx.cell u2; have m2 := hx.cell d2; have k3 := hx.cell a3; have l3 := hx.cell u3; have m3 := hx.cell d3; have k4 := hx.cell a4; have l4 := hx.cell u4; have m4 := hx.cell d4; have kn := hx.cell nc; clear hx; go_simp; try rfl)
              simp only [Act.put, List.setIfInBounds_toArray, List.set_cons_zero, List.set_cons_succ]
              refine hl_take_np 2 (by kernel_rfl) (by kernel_rfl) rfl (by kernel_rfl) hsD (v := ?_) ?_ ?_
              rotate_left
              · (rintro x hx; have k0 := hx.cell a0; have l0 := hx.cell u0; have m0 := hx.cell d0; have k1 := hx.cell a1; have l1 := hx.cell u1; have m1 := hx.cell d1; have k2 := hx.cell a2; have l2 := hx.cell u2; have m2 := hx.cell d2; have k3 := hx.cell a3; have l3 := hx.cell u3; have m3 := hx.cell d3; have k4 := hx.cell a4; have l4 := hx.cell u4; have m4 := hx.cell d4; have kn := hx.cell nc; clear hx; go_simp; try rfl)
              simp only [Act.put, List.setIfInBounds_toArray, List.set_cons_zero, List.set_cons_succ]
              refine hl_take_np 3 (by kernel_rfl) (by kernel_rfl) rfl (by kernel_rfl) hsD (v := ?_) ?_ ?_
              rotate_left
              · (rintro x hx; have k0 := hx.cell a0; have l0 := hx.cell u0; have m0 := hx.cell d0; have k1 := hx.cell a1; have l1 := hx.cell u1; have m1 := hx.cell d1; have k2 := hx.cell a2; have l2 := hx.cell u2; have m2 := hx.cell d2; have k3 := hx.cell a3; have l3 := hx.cell u3; have m3 := hx.cell d3; have k4 := hx.cell a4; have l4 := hx.cell u4; have m4 := hx.cell d4; have kn := hx.cell nc; clear hx; go_simp; try rfl)
              simp only [Act.put, List.setIfInBounds_toArray, List.set_cons_zero, List.set_cons_succ]
              refine hl_take_np 4 (by kernel_rfl) (by kernel_rfl) rfl (by kernel_rfl) hsD (v := ?_) ?_ ?_
              rotate_left
              · (rintro x hx; have k0 := hx.cell a0; have l0 := hx.cell u0; have m0 := hx.cell d0; have k1 := hx.cell a1; have l1 := hx.cell u1; have m1 := hx.cell d1; have k2 := hx.cell a2; have l2 := hx.cell u2; have m2 := hx.cell d2; have k3 := hx.cell a3; have l3 := hx.cell u3; have m3 := hx.cell d3; have k4 := hx.cell a4; have l4 := hx.cell u4; have m4 := hx.cell d4; have kn := hx.cell nc; clear hx; go_simp; try rfl)
              simp only [Act.put, List.setIfInBounds_toArray, List.set_cons_zero, List.set_cons_succ]
              refine hl_take_np 5 (by kernel_rfl) (by kernel_rfl) rfl (by kernel_rfl) hsD (v := ?_) ?_ ?_
              rotate_left
              · (rintro x hx; have k0 := hx.cell a0; have l0 := hx.cell u0; have m0 := hx.cell d0; have k1 := hx.cell a1; have l1 := hx.cell u1; have m1 := hx.cell d1; have k2 := hx.cell a2; have l2 := hx.cell u2; have m2 := hx.cell d2; have k3 := hx.cell a3; have l3 := hx.cell u3; have m3 := hx.cell d3; have k4 := hx.cell a4; have l4 := hx.cell u4; have m4 := hx.cell d4; have kn := hx.cell nc; clear hx; go_simp; try rfl)
              simp only [Act.put, List.setIfInBounds_toArray, List.set_cons_zero, List.set_cons_succ]
              refine hl_take_np 6 (by kernel_rfl) (by kernel_rfl) rfl (by kernel_rfl) hsD (v := ?_) ?_ ?_
              rotate_left
              · (rintro x hx; have k0 := hx.cell a0; have l0 := hx.cell u0; have m0 := hx.cell d0; have k1 := hx.cell a1; have l1 := hx.cell u1; have m1 := hx.cell d1; have k2 := hx.cell a2; have l2 := hx.cell u2; have m2 := hx.cell d2; have k3 := hx.cell a3; have l3 := hx.cell u3; have m3 := hx.cell d3; have k4 := hx.cell a4; have l4 := hx.cell u4; have m4 := hx.cell d4; have kn := hx.cell nc; clear hx; go_simp; try rfl)
              simp only [Act.put, List.setIfInBounds_toArray, List.set_cons_zero, List.set_cons_succ]
              refine hl_take_np 7 (by kernel_rfl) (by kernel_rfl) rfl (by kernel_rfl) hsD (v := ?_) ?_ ?_
              rotate_left
              · (rintro x hx; have k0 := hx.cell a0; have l0 := hx.cell u0; have m0 := hx.cell d0; have k1 := hx.cell a1; have l1 := hx.cell u1; have m1 := hx.cell d1; have k2 := hx.cell a2; have l2 := hx.cell u2; have m2 := hx.cell d2; have k3 := hx.cell a3; have l3 := hx.cell u3; have m3 := hx.cell d3; have k4 := hx.cell a4; have l4 := hx.cell u4; have m4 := hx.cell d4; have kn := hx.cell nc; clear hx; go_simp; try rfl)
              simp only [Act.put, List.setIfInBounds_toArray, List.set_cons_zero, List.set_cons_succ]
              refine hl_take_np 8 (by kernel_rfl) (by kernel_rfl) rfl (by kernel_rfl) hsD (v := ?_) ?_ ?_
              rotate_left
              · (rintro x hx; have k0 := hx.cell a0; have l0 := hx.cell u0; have m0 := hx.cell d0; have k1 := hx.cell a1; have l1 := hx.cell u1; have m1 := hx.cell d1; have k2 := hx.cell a2; have l2 := hx.cell u2; have m2 := hx.cell d2; have k3 := hx.cell a3; have l3 := hx.cell u3; have m3 := hx.cell d3; have k4 := hx.cell a4; have l4 := hx.cell u4; have m4 := hx.cell d4; have kn := hx.cell nc; clear hx; go_simp; try rfl)
              simp only [Act.put, List.setIfInBounds_toArray, List.set_cons_zero, List.set_cons_succ]
              refine hl_stepW 9 (by kernel_rfl) rfl (by kernel_rfl) ?_
              intro K hK
              go_simp
              refine (HD1.out WD hsD).mono ?_
              rintro e X2 ⟨rfl, hgx⟩
              have hs2 : G wr X2 := hsD.trans hgx
              refine hK _ _ (fun _ => hs2) ?_
              clear hK K hgx
              simp only [Act.put, List.setIfInBounds_toArray, List.set_cons_zero, List.set_cons_succ]
              refine hl_take_np 10 (by kernel_rfl) (by kernel_rfl) rfl (by kernel_rfl) hs2 (v := ?_) ?_ ?_
              rotate_left
              · (rintro x hx; have k0 := hx.cell a0; have l0 := hx.cell u0; have m0 := hx.cell d0; have k1 := hx.cell a1; have l1 := hx.cell u1; have m1 := hx.cell d1; have k2 := hx.cell a2; have l2 := hx.cell u2; have m2 := hx.cell d2; have k3 := hx.cell a3; have l3 := hx.cell u3; have m3 := hx.cell d3; have k4 := hx.cell a4; have l4 := hx.cell u4; have m4 := hx.cell d4; have kn := hx.cell nc; clear hx; go_simp; try rfl)
              simp only [Act.put, List.setIfInBounds_toArray, List.set_cons_zero, List.set_cons_succ]
              refine hl_take_np 11 (by kernel_rfl) (by kernel_rfl) rfl (by kernel_rfl) hs2 (v := ?_) ?_ ?_
              rotate_left
              · (rintro x hx; have k0 := hx.cell a0; have l0 := hx.cell u0; have m0 := hx.cell d0; have k1 := hx.cell a1; have l1 := hx.cell u1; have m1 := hx.cell d1; have k2 := hx.cell a2; have l2 := hx.cell u2; have m2 := hx.cell d2; have k3 := hx.cell a3; have l3 := hx.cell u3; have m3 := hx.cell d3; have k4 := hx.cell a4; have l4 := hx.cell u4; have m4 := hx.cell d4; have kn := hx.cell nc; clear hx; go_simp; try rfl)
              simp only [Act.put, List.setIfInBounds_toArray, List.set_cons_zero, List.set_cons_succ]
              refine hl_take_np 12 (by kernel_rfl) (by kernel_rfl) rfl (by kernel_rfl) hs2 (v := ?_) ?_ ?_
              rotate_left
              · (rintro x hx; have k0 := hx.cell a0; have l0 := hx.cell u0; have m0 := hx.cell d0; have k1 := hx.cell a1; have l1 := hx.cell u1; have m1 := hx.cell d1; have k2 := hx.cell a2; have l2 := hx.cell u2; have m2 := hx.cell d2; have k3 := hx.cell a3; have l3 := hx.cell u3; have m3 := hx.cell d3; have k4 := hx.cell a4; have l4 := hx.cell u4; have m4 := hx.cell d4; have kn := hx.cell nc; clear hx; go_simp; try rfl)
              simp only [Act.put, List.setIfInBounds_toArray, List.set_cons_zero, List.set_cons_succ]
              refine hl_take_np 13 (by kernel_rfl) (by kernel_rfl) rfl (by kernel_rfl) hs2 (v := ?_) ?_ ?_
              rotate_left
              · (rintro x hx; have k0 := hx.cell a0; have l0 := hx.cell u0; have m0 := hx.cell d0; have k1 := hx.cell a1; have l1 := hx.cell u1; have m1 := hx.cell d1; have k2 := hx.cell a2; have l2 := hx.cell u2; have m2 := hx.cell d2; have k3 := hx.cell a3; have l3 := hx.cell u3; have m3 := hx.cell d3; have k4 := hx.cell a4; have l4 := hx.cell u4; have m4 := hx.cell d4; have kn := hx.cell nc; clear hx; go_simp; try rfl)
              simp only [Act.put, List.setIfInBounds_toArray, List.set_cons_zero, List.set_cons_succ]
              refine hl_take_np 14 (by kernel_rfl) (by kernel_rfl) rfl (by kernel_rfl) hs2 (v := ?_) ?_ ?_
              rotate_left
              · (rintro x hx; have k0 := hx.cell a0; have l0 := hx.cell u0; have m0 := hx.cell d0; have k1 := hx.cell a1; have l1 := hx.cell u1; have m1 := hx.cell d1; have k2 := hx.cell a2; have l2 := hx.cell u2; have m2 := hx.cell d2; have k3 := hx.cell a3; have l3 := hx.cell u3; have m3 := hx.cell d3; have k4 := hx.cell a4; have l4 := hx.cell u4; have m4 := hx.cell d4; have kn := hx.cell nc; clear hx; go_simp; try rfl)
              simp only [Act.put, List.setIfInBounds_toArray, List.set_cons_zero, List.set_cons_succ]
              refine hl_take_np 15 (by kernel_rfl) (by kernel_rfl) rfl (by kernel_rfl) hs2 (v := ?_) ?_ ?_
              rotate_left
              · (rintro x hx; have k0 := hx.cell a0; have l0 := hx.cell u0; have m0 := hx.cell d0; have k1 := hx.cell a1; have l1 := hx.cell u1; have m1 := hx.cell d1; have k2 := hx.cell a2; have l2 := hx.cell u2; have m2 := hx.cell d2; have k3 := hx.cell a3; have l3 := hx.cell u3; have m3 := hx.cell d3; have k4 := hx.cell a4; have l4 := hx.cell u4; have m4 := hx.cell d4; have kn := hx.cell nc; clear hx; go_simp; try rfl)
              simp only [Act.put, List.setIfInBounds_toArray, List.set_cons_zero, List.set_cons_succ]
              refine hl_take_np 16 (by kernel_rfl) (by kernel_rfl) rfl (by kernel_rfl) hs2 (v := ?_) ?_ ?_
              rotate_left
              · (rintro x hx; have k0 := hx.cell a0; have l0 := hx.cell u0; have m0 := hx.cell d0; have k1 := hx.cell a1; have l1 := hx.cell u1; have m1 := hx.cell d1; have k2 := hx.cell a2; have l2 := hx.cell u2; have m2 := hx.cell d2; have k3 := hx.cell a3; have l3 := hx.cell u3; have m3 := hx.cell d3; have k4 := hx.cell a4; have l4 := hx.cell u4; have m4 := hx.cell d4; have kn := hx.cell nc; clear hx; go_simp; try rfl)
              simp only [Act.put, List.setIfInBounds_toArray, List.set_cons_zero, List.set_cons_succ]
              refine hl_stepW 17 (by kernel_rfl) rfl (by kernel_rfl) ?_
              intro K hK
              go_simp
              refine (HD2.out X2 hs2).mono ?_
              rintro e X3 ⟨rfl, hgx⟩
              have hs3 : G wr X3 := hs2.trans hgx
              refine hK _ _ (fun _ => hs3) ?_
              clear hK K hgx
              simp only [Act.put, List.setIfInBounds_toArray, List.set_cons_zero, List.set_cons_succ]
              refine hl_take_np 18 (by kernel_rfl) (by kernel_rfl) rfl (by kernel_rfl) hs3 (v := ?_) ?_ ?_
              rotate_left
              · (rintro x hx; have k0 := hx.cell a0; have l0 := hx.cell u0; have m0 := hx.cell d0; have k1 := hx.cell a1; have l1 := hx.cell u1; have m1 := hx.cell d1; have k2 := hx.cell a2; have l2 := hx.cell u2; have m2 := hx.cell d2; have k3 := hx.cell a3; have l3 := hx.cell u3; have m3 := hx.cell d3; have k4 := hx.cell a4; have l4 := hx.cell u4; have m4 := hx.cell d4; have kn := hx.cell nc; clear hx; go_simp; try rfl)
              simp only [Act.put, List.setIfInBounds_toArray, List.set_cons_zero, List.set_cons_succ]
              refine hl_take_np 19 (by kernel_rfl) (by kernel_rfl) rfl (by kernel_rfl) hs3 (v := ?_) ?_ ?_
              rotate_left
              · (rintro x hx; have k0 := hx.cell a0; have l0 := hx.cell u0; have m0 := hx.cell d0; have k1 := hx.cell a1; have l1 := hx.cell u1; have m1 := hx.cell d1; have k2 := hx.cell a2; have l2 := hx.cell u2; have m2 := hx.cell d2; have k3 := hx.cell a3; have l3 := hx.cell u3; have m3 := hx.cell d3; have k4 := hx.cell a4; have l4 := hx.cell u4; have m4 := hx.cell d4; have kn := hx.cell nc; clear hx; go_simp; try rfl)
              simp only [Act.put, List.setIfInBounds_toArray, List.set_cons_zero, List.set_cons_succ]
              refine hl_take_np 20 (by kernel_rfl) (by kernel_rfl) rfl (by kernel_rfl) hs3 (v := ?_) ?_ ?_
              rotate_left
              · (rintro x hx; have k0 := hx.cell a0; have l0 := hx.cell u0; have m0 := hx.cell d0; have k1 := hx.cell a1; have l1 := hx.cell u1; have m1 := hx.cell d1; have k2 := hx.cell a2; have l2 := hx.cell u2; have m2 := hx.cell d2; have k3 := hx.cell a3; have l3 := hx.cell u3; have m3 := hx.cell d3; have k4 := hx.cell a4; have l4 := hx.cell u4; have m4 := hx.cell d4; have kn := hx.cell nc; clear hx; go_simp; try rfl)
              simp only [Act.put, List.setIfInBounds_toArray, List.set_cons_zero, List.set_cons_succ]
              refine hl_take_np 21 (by kernel_rfl) (by kernel_rfl) rfl (by kernel_rfl) hs3 (v := ?_) ?_ ?_
              rotate_left
              · (rintro x hx; have k0 := hx.cell a0; have l0 := hx.cell u0; have m0 := hx.cell d0; have k1 := hx.cell a1; have l1 := hx.cell u1; have m1 := hx.cell d1; have k2 := hx.cell a2; have l2 := hx.cell u2; have m2 := hx.cell d2; have k3 := hx.cell a3; have l3 := hx.cell u3; have m3 := hx.cell d3; have k4 := hx.cell a4; have l4 := hx.cell u4; have m4 := hx.cell d4; have kn := hx.cell nc; clear hx; go_simp; try rfl)
              simp only [Act.put, List.setIfInBounds_toArray, List.set_cons_zero, List.set_cons_succ]
              refine hl_take_np 22 (by kernel_rfl) (by kernel_rfl) rfl (by kernel_rfl) hs3 (v := ?_) ?_ ?_
              rotate_left
              · (rintro x hx; have k0 := hx.cell a0; have l0 := hx.cell u0; have m0 := hx.cell d0; have k1 := hx.cell a1; have l1 := hx.cell u1; have m1 := hx.cell d1; have k2 := hx.cell a2; have l2 := hx.cell u2; have m2 := hx.cell d2; have k3 := hx.cell a3; have l3 := hx.cell u3; have m3 := hx.cell d3; have k4 := hx.cell a4; have l4 := hx.cell u4; have m4 := hx.cell d4; have kn := hx.cell nc; clear hx; go_simp; try rfl)
              simp only [Act.put, List.setIfInBounds_toArray, List.set_cons_zero, List.set_cons_succ]
              refine hl_take_np 23 (by kernel_rfl) (by kernel_rfl) rfl (by kernel_rfl) hs3 (v := ?_) ?_ ?_
              rotate_left
              · (rintro x hx; have k0 := hx.cell a0; have l0 := hx.cell u0; have m0 := hx.cell d0; have k1 := hx.cell a1; have l1 := hx.cell u1; have m1 := hx.cell d1; have k2 := hx.cell a2; have l2 := hx.cell u2; have m2 := hx.cell d2; have k3 := hx.cell a3; have l3 := hx.cell u3; have m3 := hx.cell d3; have k4 := hx.cell a4; have l4 := hx.cell u4; have m4 := hx.cell d4; have kn := hx.cell nc; clear hx; go_simp; try rfl)
              simp only [Act.put, List.setIfInBounds_toArray, List.set_cons_zero, List.set_cons_succ]
              refine hl_take_np 24 (by kernel_rfl) (by kernel_rfl) rfl (by kernel_rfl) hs3 (v := ?_) ?_ ?_
              rotate_left
              · (rintro x hx; have k0 := hx.cell a0; have l0 := hx.cell u0; have m0 := hx.cell d0; have k1 := hx.cell a1; have l1 := hx.cell u1; have m1 := hx.cell d1; have k2 := hx.cell a2; have l2 := hx.cell u2; have m2 := hx.cell d2; have k3 := hx.cell a3; have l3 := hx.cell u3; have m3 := hx.cell d3; have k4 := hx.cell a4; have l4 := hx.cell u4; have m4 := hx.cell d4; have kn := hx.cell nc; clear hx; go_simp; try rfl)
              simp only [Act.put, List.setIfInBounds_toArray, List.set_cons_zero, List.set_cons_succ]
              refine hl_take_np 25 (by kernel_rfl) (by kernel_rfl) rfl (by kernel_rfl) hs3 (v := ?_) ?_ ?_
              rotate_left
              · (rintro x hx; have k0 := hx.cell a0; have l0 := hx.cell u0; have m0 := hx.cell d0; have k1 := hx.cell a1; have l1 := hx.cell u1; have m1 := hx.cell d1; have k2 := hx.cell a2; have l2 := hx.cell u2; have m2 := hx.cell d2; have k3 := hx.cell a3; have l3 := hx.cell u3; have m3 := hx.cell d3; have k4 := hx.cell a4; have l4 := hx.cell u4; have m4 := hx.cell d4; have kn := hx.cell nc; clear hx; go_simp; try rfl)
              simp only [Act.put, List.setIfInBounds_toArray, List.set_cons_zero, List.set_cons_succ]
              refine hl_take_np 26 (by kernel_rfl) (by kernel_rfl) rfl (by kernel_rfl) hs3 (v := ?_) ?_ ?_
              rotate_left
              · (rintro x hx; have k0 := hx.cell a0; have l0 := hx.cell u0; have m0 := hx.cell d0; have k1 := hx.cell a1; have l1 := hx.cell u1; have m1 := hx.cell d1; have k2 := hx.cell a2; have l2 := hx.cell u2; have m2 := hx.cell d2; have k3 := hx.cell a3; have l3 := hx.cell u3; have m3 := hx.cell d3; have k4 := hx.cell a4; have l4 := hx.cell u4; have m4 := hx.cell d4; have kn := hx.cell nc; clear hx; go_simp; try rfl)
              simp only [Act.put, List.setIfInBounds_toArray, List.set_cons_zero, List.set_cons_succ]
              refine hl_take_np 27 (by kernel_rfl) (by kernel_rfl) rfl (by kernel_rfl) hs3 (v := ?_) ?_ ?_
              rotate_left
              · (rintro x hx; have k0 := hx.cell a0; have l0 := hx.cell u0; have m0 := hx.cell d0; have k1 := hx.cell a1; have l1 := hx.cell u1; have m1 := hx.cell d1; have k2 := hx.cell a2; have l2 := hx.cell u2; have m2 := hx.cell d2; have k3 := hx.cell a3; have l3 := hx.cell u3; have m3 := hx.cell d3; have k4 := hx.cell a4; have l4 := hx.cell u4; have m4 := hx.cell d4; have kn := hx.cell nc; clear hx; go_simp; try rfl)
              simp only [Act.put, List.setIfInBounds_toArray, List.set_cons_zero, List.set_cons_succ]
              refine hl_take_np 28 (by kernel_rfl) (by kernel_rfl) rfl (by kernel_rfl) hs3 (v := ?_) ?_ ?_
              rotate_left
              · (rintro x hx; have k0 := hx.cell a0; have l0 := hx.cell u0; have m0 := hx.cell d0; have k1 := hx.cell a1; have l1 := hx.cell u1; have m1 := hx.cell d1; have k2 := hx.cell a2; have l2 := hx.cell u2; have m2 := hx.cell d2; have k3 := hx.cell a3; have l3 := hx.cell u3; have m3 := hx.cell d3; have k4 := hx.cell a4; have l4 := hx.cell u4; have m4 := hx.cell d4; have kn := hx.cell nc; clear hx; go_simp; try rfl)
              simp only [Act.put, List.setIfInBounds_toArray, List.set_cons_zero, List.set_cons_succ]
              refine hl_take_np 29 (by kernel_rfl) (by kernel_rfl) rfl (by kernel_rfl) hs3 (v := ?_) ?_ ?_
              rotate_left
              · (rintro x hx; have k0 := hx.cell a0; have l0 := hx.cell u0; have m0 := hx.cell d0; have k1 := hx.cell a1; have l1 := hx.cell u1; have m1 := hx.cell d1; have k2 := hx.cell a2; have l2 := hx.cell u2; have m2 := hx.cell d2; have k3 := hx.cell a3; have l3 := hx.cell u3; have m3 := hx.cell d3; have k4 := hx.cell a4; have l4 := hx.cell u4; have m4 := hx.cell d4; have kn := hx.cell nc; clear hx; go_simp; try rfl)
              simp only [Act.put, List.setIfInBounds_toArray, List.set_cons_zero, List.set_cons_succ]
              refine hl_take_np 30 (by kernel_rfl) (by kernel_rfl) rfl (by kernel_rfl) hs3 (v := ?_) ?_ ?_
              rotate_left
              · (rintro x hx; have k0 := hx.cell a0; have l0 := hx.cell u0; have m0 := hx.cell d0; have k1 := hx.cell a1; have l1 := hx.cell u1; have m1 := hx.cell d1; have k2 := hx.cell a2; have l2 := hx.cell u2; have m2 := hx.cell d2; have k3 := hx.cell a3; have l3 := hx.cell u3; have m3 := hx.cell d3; have k4 := hx.cell a4; have l4 := hx.cell u4; have m4 := hx.cell d4; have kn := hx.cell nc; clear hx; go_simp; try rfl)
              simp only [Act.put, List.setIfInBounds_toArray, List.set_cons_zero, List.set_cons_succ]
              refine hl_take_np 31 (by kernel_rfl) (by kernel_rfl) rfl (by kernel_rfl) hs3 (v := ?_) ?_ ?_
              rotate_left
              · (rintro x hx; have k0 := hx.cell a0; have l0 := hx.cell u0; have m0 := hx.cell d0; have k1 := hx.cell a1; have l1 := hx.cell u1; have m1 := hx.cell d1; have k2 := hx.cell a2; have l2 := hx.cell u2; have m2 := hx.cell d2; have k3 := hx.cell a3; have l3 := hx.cell u3; have m3 := hx.cell d3; have k4 := hx.cell a4; have l4 := hx.cell u4; have m4 := hx.cell d4; have kn := hx.cell nc; clear hx; go_simp; try rfl)
              simp only [Act.put, List.setIfInBounds_toArray, List.set_cons_zero, List.set_cons_succ]
              refine hl_take_np 32 (by kernel_rfl) (by kernel_rfl) rfl (by kernel_rfl) hs3 (v := ?_) ?_ ?_
              rotate_left
              · (rintro x hx; have k0 := hx.cell a0; have l0 := hx.cell u0; have m0 := hx.cell d0; have k1 := hx.cell a1; have l1 := hx.cell u1; have m1 := hx.cell d1; have k2 := hx.cell a2; have l2 := hx.cell u2; have m2 := hx.cell d2; have k3 := hx.cell a3; have l3 := hx.cell u3; have m3 := hx.cell d3; have k4 := hx.cell a4; have l4 := hx.cell u4; have m4 := hx.cell d4; have kn := hx.cell nc; clear hx; go_simp; try rfl)
              simp only [Act.put, List.setIfInBounds_toArray, List.set_cons_zero, List.set_cons_succ]
              refine hl_stepW 33 (by kernel_rfl) rfl (by kernel_rfl) ?_
              intro K hK
              go_simp
              refine hK _ _ (fun _ => hs3.alloc _) ?_
              clear hK K
              simp only [Act.put, List.setIfInBounds_toArray, List.set_cons_zero, List.set_cons_succ]
              refine hl_stepW 34 (by kernel_rfl) rfl (by kernel_rfl) ?_
              intro K hK
              go_simp
              refine (HD3.out X3 hs3).mono ?_
              rintro e X4 ⟨rfl, hgx⟩
              have hs4 : G wr X4 := (hs3.alloc _).trans hgx
              refine hK _ _ (fun _ => hs4) ?_
              clear hK K hgx
              simp only [Act.put, List.setIfInBounds_toArray, List.set_cons_zero, List.set_cons_succ]
              refine hl_take_np 35 (by kernel_rfl) (by kernel_rfl) rfl (by kernel_rfl) hs4 (v := ?_) ?_ ?_
              rotate_left
              · (rintro x hx; clear hx; go_simp; try rfl)
              simp only [Act.put, List.setIfInBounds_toArray, List.set_cons_zero, List.set_cons_succ]
              refine hl_take_np 36 (by kernel_rfl) (by kernel_rfl) rfl (by kernel_rfl) hs4 (v := ?_) ?_ ?_
              rotate_left
              · (rintro x hx; clear hx; go_simp; try rfl)
              simp only [Act.put, List.setIfInBounds_toArray, List.set_cons_zero, List.set_cons_succ]
              refine hl_done (by kernel_rfl) ?_ _
              refine NoPanic.normal (HQ0.out _ _ ?_)
              clear HQ0
              have hgc := hgb.trans hs4
              have HM4 := Lib.hid (HM.out.g hs4)
              clear a0 a1 a2 a3 a4 d0 d1 d2 d3 d4 u0 u1 u2 u3 u4 nc hsD hs2 hs3 hs4 HD1 HD2 HD3 HD4 HM HPV KW hk2I hk2J hkw hkw2 hgb
              obtain ⟨j, hj⟩ : ∃ j : Nat, j = i % 7 := ⟨_, rfl⟩
              have hj7 : j < 7 := by omega
              have hj1 : (i : Int) % 7 = (j : Int) := by omega
              have hj2 : (i : Int).tmod 7 = (j : Int) := by rw [Int.tmod_eq_emod_of_nonneg (by omega)]; omega
              have hjw : IntKind.i64.wrap (j : Int) = j := IntWalk.i64_in _ (by omega)
              obtain ⟨x, hx⟩ := tms_at hj7
              have mc := hgc.cell (KA.out.m j x hx)
              clear hj hx
              obtain ⟨d0, d1, d2, d3, d4⟩ := HM4.out.in.at (k := k) hlk
              have y0 := HM4.out.in.froz (k * 5 + 3)
              go_upto_region 25 with fail
              obtain ⟨Y, hY⟩ : ∃ X : World, X = X4.setCell ⟨g, k * 5 + 3, none⟩ (.int .i64 x) := ⟨_, rfl⟩
              rw [← hY]
              obtain ⟨N, hN⟩ := HM4.out.setM (k := k) hlk x
              rw [← hY] at hN
              have HN := Lib.hid hN
              have gY : G WA Y := by rw [hY]; exact hgc.setCell HGE.out _
              clear hY d0 d1 d2 d3 d4 y0 mc hj1 hj2 hjw hgc HM4 hN
              obtain ⟨h, pc, hpv, -⟩ := HN.out.pb (k := k) hlk
              obtain ⟨h2, pc2, hpv2, -⟩ := HN.out.pb (k := 0) (by omega)
              obtain ⟨d0, d1, d2, d3, d4⟩ := HN.out.in.at (k := k) hlk
              obtain ⟨u0, u1, u2, u3, u4⟩ := HN.out.in.at (k := 0) (by omega)
              simp only [Nat.zero_mul, Nat.zero_add] at u0 u1 u2 u3 u4
              have hAt : EdgAt Y (eat N k) := (HN.out.each _ (List.mem_of_getElem? (eat_get (by rw [HN.out.len]; exact hlk)))).at
              have hBt : EdgAt Y (eat N 0) := (HN.out.each _ (List.mem_of_getElem? (eat_get (by rw [HN.out.len]; omega)))).at
              have HD1 := Lib.hid (fun X (hX : G Y X) => does_any (eat N k) (eat N 0) ⟨#[108]⟩ X (hAt.g hX) (hBt.g hX))
              have HD2 := Lib.hid (fun X (hX : G Y X) => sorts_any N (.slice (some ⟨g, 0, none⟩) 6 rc) X (HN.out.rdr.g hX) (by rw [HN.out.len]; omega))
              unfold ev at HD1
              rw [hpv, hpv2] at HD1
              rw [hpv] at d4
              rw [hpv2] at u4
              clear hpv hpv2 hAt hBt
              go_upto_region 25 with fail
              obtain ⟨WD, hWD⟩ : ∃ WD : World, WD = Y.drew := ⟨_, rfl⟩
              have hsD : G Y WD := by rw [hWD]; exact (G.refl Y).drew
              refine region_hlW (fun w' => G Y w') 99 14 (by kernel_rfl) rfl ?_
              intro Q0 HQ0
              simp only [List.replicate_succ, List.replicate_zero]
              rw [← hWD]
              clear hWD
              refine hl_take_np 0 (by kernel_rfl) (by kernel_rfl) rfl (by kernel_rfl) hsD (v := ?_) ?_ ?_
              rotate_left
              · (rintro x hx; have l0 := hx.cell u0; have m0 := hx.cell d0; have l1 := hx.cell u1; have m1 := hx.cell d1; have l2 := hx.cell u2; have m2 := hx.cell d2; have l3 := hx.cell u3; have m3 := hx.cell d3; have l4 := hx.cell u4; have m4 := hx.cell d4; clear hx; go_simp; try rfl)
              simp only [Act.put, List.setIfInBounds_toArray, List.set_cons_zero, List.set_cons_succ]
              refine hl_take_np 1 (by kernel_rfl) (by kernel_rfl) rfl (by kernel_rfl) hsD (v := ?_) ?_ ?_
              rotate_left
              · (rintro x hx; have l0 := hx.cell u0; have m0 := hx.cell d0; have l1 := hx.cell u1; have m1 := hx.cell d1; have l2 := hx.cell u2; have m2 := hx.cell d2; have l3 := hx.cell u3; have m3 := hx.cell d3; have l4 := hx.cell u4; have m4 := hx.cell d4; clear hx; go_simp; try rfl)
              simp only [Act.put, List.setIfInBounds_toArray, List.set_cons_zero, List.set_cons_succ]
              refine hl_take_np 2 (by kernel_rfl) (by kernel_rfl) rfl (by kernel_rfl) hsD (v := ?_) ?_ ?_
              rotate_left
              · (rintro x hx; have l0 := hx.cell u0; have m0 := hx.cell d0; have l1 := hx.cell u1; have m1 := hx.cell d1; have l2 := hx.cell u2; have m2 := hx.cell d2; have l3 := hx.cell u3; have m3 := hx.cell d3; have l4 := hx.cell u4; have m4 := hx.cell d4; clear hx; go_simp; try rfl)
              simp only [Act.put, List.setIfInBounds_toArray, List.set_cons_zero, List.set_cons_succ]
              refine hl_take_np 3 (by kernel_rfl) (by kernel_rfl) rfl (by kernel_rfl) hsD (v := ?_) ?_ ?_
              rotate_left
              · (rintro x hx; have l0 := hx.cell u0; have m0 := hx.cell d0; have l1 := hx.cell u1; have m1 := hx.cell d1; have l2 := hx.cell u2; have m2 := hx.cell d2; have l3 := hx.cell u3; have m3 := hx.cell d3; have l4 := hx.cell u4; have m4 := hx.cell d4; clear hx; go_simp; try rfl)
              simp only [Act.put, List.setIfInBounds_toArray, List.set_cons_zero, List.set_cons_succ]
              refine hl_take_np 4 (by kernel_rfl) (by kernel_rfl) rfl (by kernel_rfl) hsD (v := ?_) ?_ ?_
              rotate_left
              · (rintro x hx; have l0 := hx.cell u0; have m0 := hx.cell d0; have l1 := hx.cell u1; have m1 := hx.cell d1; have l2 := hx.cell u2; have m2 := hx.cell d2; have l3 := hx.cell u3; have m3 := hx.cell d3; have l4 := hx.cell u4; have m4 := hx.cell d4; clear hx; go_simp; try rfl)
              simp only [Act.put, List.setIfInBounds_toArray, List.set_cons_zero, List.set_cons_succ]
              refine hl_take_np 5 (by kernel_rfl) (by kernel_rfl) rfl (by kernel_rfl) hsD (v := ?_) ?_ ?_
              rotate_left
              · (rintro x hx; have l0 := hx.cell u0; have m0 := hx.cell d0; have l1 := hx.cell u1; have m1 := hx.cell d1; have l2 := hx.cell u2; have m2 := hx.cell d2; have l3 := hx.cell u3; have m3 := hx.cell d3; have l4 := hx.cell u4; have m4 := hx.cell d4; clear hx; go_simp; try rfl)
              simp only [Act.put, List.setIfInBounds_toArray, List.set_cons_zero, List.set_cons_succ]
              refine hl_take_np 6 (by kernel_rfl) (by kernel_rfl) rfl (by kernel_rfl) hsD (v := ?_) ?_ ?_
              rotate_left
              · (rintro x hx; have l0 := hx.cell u0; have m0 := hx.cell d0; have l1 := hx.cell u1; have m1 := hx.cell d1; have l2 := hx.cell u2; have m2 := hx.cell d2; have l3 := hx.cell u3; have m3 := hx.cell d3; have l4 := hx.cell u4; have m4 := hx.cell d4; clear hx; go_simp; try rfl)
              simp only [Act.put, List.setIfInBounds_toArray, List.set_cons_zero, List.set_cons_succ]
              refine hl_stepW 7 (by kernel_rfl) rfl (by kernel_rfl) ?_
              intro K hK
              go_simp
              refine (HD1.out WD hsD).mono ?_
              rintro e Y2 ⟨rfl, hgx⟩
              have hs2 : G Y Y2 := hsD.trans hgx
              refine hK _ _ (fun _ => hs2) ?_
              clear hK K hgx
              simp only [Act.put, List.setIfInBounds_toArray, List.set_cons_zero, List.set_cons_succ]
              clear d0 d1 d2 d3 d4 u0 u1 u2 u3 u4
              refine hl_take_np 8 (by kernel_rfl) (by kernel_rfl) rfl (by kernel_rfl) hs2 (v := ?_) ?_ ?_
              rotate_left
              · (rintro x hx; clear hx; go_simp; try rfl)
              simp only [Act.put, List.setIfInBounds_toArray, List.set_cons_zero, List.set_cons_succ]
              refine hl_take_np 9 (by kernel_rfl) (by kernel_rfl) rfl (by kernel_rfl) hs2 (v := ?_) ?_ ?_
              rotate_left
              · (rintro x hx; clear hx; go_simp; try rfl)
              simp only [Act.put, List.setIfInBounds_toArray, List.set_cons_zero, List.set_cons_succ]
              refine hl_take_np 10 (by kernel_rfl) (by kernel_rfl) rfl (by kernel_rfl) hs2 (v := ?_) ?_ ?_
              rotate_left
              · (rintro x hx; clear hx; go_simp; try rfl)
              simp only [Act.put, List.setIfInBounds_toArray, List.set_cons_zero, List.set_cons_succ]
              refine hl_stepW 11 (by kernel_rfl) rfl (by kernel_rfl) ?_
              intro K hK
              go_simp
              refine (HD2.out Y2 hs2).mono ?_
              rintro e Y3 ⟨rfl, hgx⟩
              have hs3 : G Y Y3 := hs2.trans hgx
              refine hK _ _ (fun _ => hs3) ?_
              clear hK K hgx
              simp only [Act.put, List.setIfInBounds_toArray, List.set_cons_zero, List.set_cons_succ]
              refine hl_take_np 12 (by kernel_rfl) (by kernel_rfl) rfl (by kernel_rfl) hs3 (v := ?_) ?_ ?_
              rotate_left
              · (rintro x hx; clear hx; go_simp; try rfl)
              simp only [Act.put, List.setIfInBounds_toArray, List.set_cons_zero, List.set_cons_succ]
              refine hl_take_np 13 (by kernel_rfl) (by kernel_rfl) rfl (by kernel_rfl) hs3 (v := ?_) ?_ ?_
              rotate_left
              · (rintro x hx; clear hx; go_simp; try rfl)
              simp only [Act.put, List.setIfInBounds_toArray, List.set_cons_zero, List.set_cons_succ]
              refine hl_done (by kernel_rfl) ?_ _
              refine NoPanic.normal (HQ0.out _ _ ?_)
              clear HQ0
              have hgd := gY.trans hs3
              have HN2 := Lib.hid (HN.out.g hs3)
              clear gY hsD hs2 hs3 HD1 HD2 HN
              go_wp2_with fail
              go_roundw
              case rel => exact ⟨k + 1, _, by omega, by go_num, HN2, hgd⟩
              case measure => simp [intOf]; omega
            · have hlkI : ¬ (k : Int) < 6 := by omega
              go_wp2_with fail
              go_roundw
              case rel => exact ⟨i + 1, by omega, by go_num, hg.trans hgb⟩
              case measure => simp [intOf]; omega
    · have hltI : ¬ (i : Int) < 10 := by omega
      go_wp2_with fail
      go_loopw [10] (fun iv wr => ∃ i : Nat, i ≤ 7 ∧ iv = .int .i64 i ∧ G WA wr) (fun iv _ => 7 - (intOf iv).toNat)
      case atStart => exact ⟨0, by omega, rfl, G.refl _⟩
      case round =>
        obtain ⟨i, hi7, rfl, hga⟩ := hrel
        by_cases hl7 : i < 7
        · have hl7I : (i : Int) < 7 := by omega
          have hi0 : (0 : Int) ≤ (i : Int) := by omega
          obtain ⟨x, hx⟩ := tms_at hl7
          have HTM := Lib.hid hx
          clear hx
          have KW := Lib.hid (HKP.out.1.g (hg.trans hga))
          obtain ⟨a0, a1, a2, a3, a4⟩ := cells5 KW.out.b
          have HCE := Lib.hid (copyE_any (goodE bp) wr KW.out.e (by show (2 : Nat) ≤ _; omega))
          unfold ev lentE goodE at HCE
          simp only at HCE
          go_wp2_with fail
          refine HCE.out.mono ?_
          rintro e Wx ⟨u, rfl, hownu, hgx⟩
          have hown9 : Wx.ownsRow wr.heap.size 56 4 u 2 (pcells gps) := hownu.own
          obtain ⟨xp, xc, rfl⟩ := ownsRow_shape hown9
          obtain ⟨hx, rfl, hlx1, hlx2⟩ : ∃ h, xp = some ⟨h, 0, none⟩ ∧ wr.heap.size ≤ h ∧ h < Wx.heap.size := by
            rcases id hown9.2 with ⟨-, h0⟩ | ⟨q, cap, cur, hv, hb, hh, -⟩
            · cases h0
            · cases hv; exact ⟨q, rfl, hb, heap_lt hh⟩
          have HUx := Lib.hid hownu
          obtain ⟨bx, hbx⟩ : ∃ b, b = Wx.heap.size := ⟨_, rfl⟩
          obtain ⟨Vx, hVx⟩ : ∃ X : World, X = Wx.alloc (.cells #[.string ⟨#[97, 49]⟩, .string ⟨#[55]⟩, .string ⟨#[120, 95, 121]⟩, .int .i64 258, .slice (some ⟨hx, 0, none⟩) 2 xc] 27) := ⟨_, rfl⟩
          have hcx : Vx.heap[bx]? = some (.cells #[.string ⟨#[97, 49]⟩, .string ⟨#[55]⟩, .string ⟨#[120, 95, 121]⟩, .int .i64 258, .slice (some ⟨hx, 0, none⟩) 2 xc] 27 (0, 0)) := by rw [hVx, hbx]; exact alloc_new _ _
          have gvx : G wr Vx := by rw [hVx]; exact hgx.alloc _
          have HEx := Lib.hid (show OwnE Vx wr.heap.size ⟨⟨#[97, 49]⟩, ⟨#[55]⟩, ⟨#[120, 95, 121]⟩, 258, .slice (some ⟨hx, 0, none⟩) 2 xc, gps⟩ by rw [hVx]; exact HUx.out.g ((G.refl _).alloc _))
          have hltx : bx < Vx.heap.size := heap_lt hcx
          have hlex : wr.heap.size ≤ bx := by rw [hbx]; exact hgx.size
          have hlhx : hx < bx := by rw [hbx]; exact hlx2
          have HVx := Lib.hid hVx
          have HBx := Lib.hid hbx
          have HCx := Lib.hid hcx
          clear hownu hown9 hVx hbx hcx hlx2 hgx a0 a1 a2 a3 a4 HCE KW HUx
          go_upto_region 31 with fail
          rw [← HBx.out, ← HVx.out]
          have z3 := (cells5 HCx.out).2.2.2.1
          have y3 : Vx.frozen? ⟨bx, 3, none⟩ = false := by have hb := HCx.out; unfold World.frozen?; rw [hb]; simp
          have mc := (hga.trans gvx) |> fun h => (HKP.out.1.g (hg.trans h)).m i x HTM.out
          go_upto_region 32 with fail
          obtain ⟨U1, hU1⟩ : ∃ X : World, X = Vx.setCell ⟨bx, 3, none⟩ (.int .i64 x) := ⟨_, rfl⟩
          rw [← hU1]
          have gU1 : G wr U1 := by rw [hU1]; exact gvx.setCell hlex _
          have HX1 := Lib.hid (show U1.heap[bx]? = some (.cells #[.string ⟨#[97, 49]⟩, .string ⟨#[55]⟩, .string ⟨#[120, 95, 121]⟩, .int .i64 x, .slice (some ⟨hx, 0, none⟩) 2 xc] 27 (0, 0)) by rw [hU1]; exact heap_setCell_at _ _ 3 _ _ _ _ HCx.out)
          have HXE := Lib.hid (show EdgAt U1 ⟨⟨#[97, 49]⟩, ⟨#[55]⟩, ⟨#[120, 95, 121]⟩, x, .slice (some ⟨hx, 0, none⟩) 2 xc, gps⟩ from by
            have h9 := (HEx.out.fr (by rw [hU1]; exact (Fr.refl (fun q => q = bx) Vx).setCell (p := ⟨bx, 3, none⟩) (.inl rfl) _ : Fr (fun q => q = bx) Vx U1) (fun q hq e => by cases hq; exact absurd e (Nat.ne_of_lt hlhx))).at
            exact ⟨h9.rdr, h9.n, h9.ps, h9.f, h9.t, h9.l⟩)
          have gA1 := hga.trans gU1
          clear hU1 z3 y3 mc HVx HBx HCx HEx gvx hltx hlex hlhx gU1 hlx1
          have KW := Lib.hid (HKP.out.1.g (hg.trans gA1))
          obtain ⟨a0, a1, a2, a3, a4⟩ := cells5 KW.out.b
          have HCE := Lib.hid (copyE_any (goodE bp) U1 KW.out.e (by show (2 : Nat) ≤ _; omega))
          unfold ev lentE goodE at HCE
          simp only at HCE
          go_wp2_with fail
          refine HCE.out.mono ?_
          rintro e Wq ⟨u, rfl, hownu, hgq⟩
          have hown9 : Wq.ownsRow U1.heap.size 56 4 u 2 (pcells gps) := hownu.own
          obtain ⟨qp, qc, rfl⟩ := ownsRow_shape hown9
          obtain ⟨hq, rfl, hlq1, hlq2⟩ : ∃ h, qp = some ⟨h, 0, none⟩ ∧ U1.heap.size ≤ h ∧ h < Wq.heap.size := by
            rcases id hown9.2 with ⟨-, h0⟩ | ⟨q, cap, cur, hv, hb, hh, -⟩
            · cases h0
            · cases hv; exact ⟨q, rfl, hb, heap_lt hh⟩
          have HUq := Lib.hid hownu
          obtain ⟨bq, hbq⟩ : ∃ b, b = Wq.heap.size := ⟨_, rfl⟩
          obtain ⟨Vq, hVq⟩ : ∃ X : World, X = Wq.alloc (.cells #[.string ⟨#[97, 49]⟩, .string ⟨#[55]⟩, .string ⟨#[120, 95, 121]⟩, .int .i64 258, .slice (some ⟨hq, 0, none⟩) 2 qc] 27) := ⟨_, rfl⟩
          have hcq : Vq.heap[bq]? = some (.cells #[.string ⟨#[97, 49]⟩, .string ⟨#[55]⟩, .string ⟨#[120, 95, 121]⟩, .int .i64 258, .slice (some ⟨hq, 0, none⟩) 2 qc] 27 (0, 0)) := by rw [hVq, hbq]; exact alloc_new _ _
          have gvq : G U1 Vq := by rw [hVq]; exact hgq.alloc _
          have HEq := Lib.hid (show OwnE Vq U1.heap.size ⟨⟨#[97, 49]⟩, ⟨#[55]⟩, ⟨#[120, 95, 121]⟩, 258, .slice (some ⟨hq, 0, none⟩) 2 qc, gps⟩ by rw [hVq]; exact HUq.out.g ((G.refl _).alloc _))
          have hltq : bq < Vq.heap.size := heap_lt hcq
          have hleq : U1.heap.size ≤ bq := by rw [hbq]; exact hgq.size
          have hlhq : hq < bq := by rw [hbq]; exact hlq2
          have HVq := Lib.hid hVq
          have HBq := Lib.hid hbq
          have HCq := Lib.hid hcq
          clear hownu hown9 hVq hbq hcq hlq2 hgq a0 a1 a2 a3 a4 HCE KW HUq
          go_upto_region 33 with fail
          rw [← HBq.out, ← HVq.out]
          have z4 := (cells5 HCq.out).2.2.2.2
          have mc := (gA1.trans gvq) |> fun h => (HKP.out.1.g (hg.trans h)).m i x HTM.out
          obtain ⟨zv, hzv⟩ : ∃ v, Vq.cell? ⟨hq, 2, none⟩ = some v := ⟨_, by have := HEq.out.own.cells (g := hq) rfl 2 (.int .i64 (-3)) rfl; rw [addr_add, Nat.zero_add] at this; exact this⟩
          have y2 : Vq.frozen? ⟨hq, 2, none⟩ = false := own_froz HEq.out.own
          obtain ⟨WD, hWD⟩ : ∃ WD : World, WD = Vq.drew := ⟨_, rfl⟩
          have hsD : G Vq WD := by rw [hWD]; exact (G.refl Vq).drew
          refine region_hlW (fun w' => G Vq w') 9 10 (by kernel_rfl) rfl ?_
          intro Q0 HQ0
          simp only [List.replicate_succ, List.replicate_zero]
          rw [← hWD]
          clear hWD
          refine hl_take_np 0 (by kernel_rfl) (by kernel_rfl) rfl (by kernel_rfl) hsD (v := ?_) ?_ ?_
          rotate_left
          · (rintro x hx; have k4 := hx.cell z4; have k5 := hx.cell mc; clear hx; go_simp; try rfl)
          simp only [Act.put, List.setIfInBounds_toArray, List.set_cons_zero, List.set_cons_succ]
          refine hl_take_np 1 (by kernel_rfl) (by kernel_rfl) rfl (by kernel_rfl) hsD (v := ?_) ?_ ?_
          rotate_left
          · (rintro x hx; have k4 := hx.cell z4; have k5 := hx.cell mc; clear hx; go_simp; try rfl)
          simp only [Act.put, List.setIfInBounds_toArray, List.set_cons_zero, List.set_cons_succ]
          refine hl_take_np 2 (by kernel_rfl) (by kernel_rfl) rfl (by kernel_rfl) hsD (v := ?_) ?_ ?_
          rotate_left
          · (rintro x hx; have k4 := hx.cell z4; have k5 := hx.cell mc; clear hx; go_simp; try rfl)
          simp only [Act.put, List.setIfInBounds_toArray, List.set_cons_zero, List.set_cons_succ]
          refine hl_take_np 3 (by kernel_rfl) (by kernel_rfl) rfl (by kernel_rfl) hsD (v := ?_) ?_ ?_
          rotate_left
          · (rintro x hx; have k4 := hx.cell z4; have k5 := hx.cell mc; clear hx; go_simp; try rfl)
          simp only [Act.put, List.setIfInBounds_toArray, List.set_cons_zero, List.set_cons_succ]
          refine hl_take_np 4 (by kernel_rfl) (by kernel_rfl) rfl (by kernel_rfl) hsD (v := ?_) ?_ ?_
          rotate_left
          · (rintro x hx; have k4 := hx.cell z4; have k5 := hx.cell mc; clear hx; go_simp; try rfl)
          simp only [Act.put, List.setIfInBounds_toArray, List.set_cons_zero, List.set_cons_succ]
          refine hl_take_np 5 (by kernel_rfl) (by kernel_rfl) rfl (by kernel_rfl) hsD (v := ?_) ?_ ?_
          rotate_left
          · (rintro x hx; have k4 := hx.cell z4; have k5 := hx.cell mc; clear hx; go_simp; try rfl)
          simp only [Act.put, List.setIfInBounds_toArray, List.set_cons_zero, List.set_cons_succ]
          refine hl_stepW 6 (by kernel_rfl) rfl (by kernel_rfl) ?_
          intro K hK
          go_simp
          refine hK _ _ (fun _ => hsD) ?_
          clear hK K
          simp only [Act.put, List.setIfInBounds_toArray, List.set_cons_zero, List.set_cons_succ]
          refine hl_stepW 7 (by kernel_rfl) rfl (by kernel_rfl) ?_
          intro K hK
          go_simp
          refine hK _ _ (fun _ => hsD) ?_
          clear hK K
          simp only [Act.put, List.setIfInBounds_toArray, List.set_cons_zero, List.set_cons_succ]
          refine hl_stepW 8 (by kernel_rfl) rfl (by kernel_rfl) ?_
          intro K hK
          go_simp
          refine hK _ _ (fun _ => hsD) ?_
          clear hK K
          simp only [Act.put, List.setIfInBounds_toArray, List.set_cons_zero, List.set_cons_succ]
          have hzv := hsD.cell hzv
          have y2 := (hsD.frozen (p := ⟨hq, 2, none⟩) (by show hq < _; omega)).trans y2
          refine hl_stepW 9 (by kernel_rfl) rfl (by kernel_rfl) ?_
          intro K hK
          go_simp
          refine hK _ _ (fun h => absurd rfl h) ?_
          clear hK K
          simp only [Act.put, List.setIfInBounds_toArray, List.set_cons_zero, List.set_cons_succ]
          refine hl_done (by kernel_rfl) ?_ _
          refine NoPanic.normal (HQ0.out _ _ ?_)
          clear HQ0
          obtain ⟨U2, hU2⟩ : ∃ X : World, X = WD.setCell ⟨hq, 2, none⟩ (.int .i64 x) := ⟨_, rfl⟩
          rw [← hU2]
          have gU2 : G U1 U2 := by rw [hU2]; exact (gvq.trans hsD).setCell hlq1 _
          obtain ⟨Y, e1, e2, e3, e4, e5, e6, e7⟩ := (HEq.out.g hsD).setP (h := hq) (q := 2) (u := .int .i64 x) rfl (.inr ⟨by omega, x, rfl⟩)
          rw [← hU2] at e7
          have HYE := Lib.hid (show EdgAt U2 ⟨⟨#[97, 49]⟩, ⟨#[55]⟩, ⟨#[120, 95, 121]⟩, 258, .slice (some ⟨hq, 0, none⟩) 2 qc, Y.ps⟩ from by
            have h9 := e7.at
            obtain ⟨qf, qt, ql, qm, qv, qps⟩ := Y
            simp only at e1 e2 e3 e4 e5 e6
            subst e1 e2 e3 e4 e5
            exact h9)
          have HX1 := Lib.hid ((gU2.block (heap_lt HX1.out)).trans HX1.out)
          have HXE := Lib.hid (HXE.out.g gU2)
          have HY1 := Lib.hid (show U2.heap[bq]? = some (.cells #[.string ⟨#[97, 49]⟩, .string ⟨#[55]⟩, .string ⟨#[120, 95, 121]⟩, .int .i64 258, .slice (some ⟨hq, 0, none⟩) 2 qc] 27 (0, 0)) by
            rw [hU2]
            exact ((Fr.refl (fun q => q = hq) WD).setCell (p := ⟨hq, 2, none⟩) (.inl rfl) _).block _ (by have := hsD.size; omega) (by omega) |>.trans ((hsD.block hltq).trans HCq.out))
          have gA2 := gA1.trans gU2
          clear hU2 z4 y2 mc hzv HVq HBq HCq HEq gvq hltq hleq hlhq gU2 hlq1 e1 e2 e3 e4 e5 e6 e7 hsD gA1
          have KW := Lib.hid (HKP.out.1.g (hg.trans gA2))
          obtain ⟨a0, a1, a2, a3, a4⟩ := cells5 KW.out.b
          have HCE := Lib.hid (copyE_any (goodE bp) U2 KW.out.e (by show (2 : Nat) ≤ _; omega))
          unfold ev lentE goodE at HCE
          simp only at HCE
          go_wp2_with fail
          refine HCE.out.mono ?_
          rintro e Wz ⟨u, rfl, hownu, hgz⟩
          have hown9 : Wz.ownsRow U2.heap.size 56 4 u 2 (pcells gps) := hownu.own
          obtain ⟨zp, zc, rfl⟩ := ownsRow_shape hown9
          obtain ⟨hz, rfl, hlz1, hlz2⟩ : ∃ h, zp = some ⟨h, 0, none⟩ ∧ U2.heap.size ≤ h ∧ h < Wz.heap.size := by
            rcases id hown9.2 with ⟨-, h0⟩ | ⟨q, cap, cur, hv, hb, hh, -⟩
            · cases h0
            · cases hv; exact ⟨q, rfl, hb, heap_lt hh⟩
          have HUz := Lib.hid hownu
          obtain ⟨bz, hbz⟩ : ∃ b, b = Wz.heap.size := ⟨_, rfl⟩
          obtain ⟨Vz, hVz⟩ : ∃ X : World, X = Wz.alloc (.cells #[.string ⟨#[97, 49]⟩, .string ⟨#[55]⟩, .string ⟨#[120, 95, 121]⟩, .int .i64 258, .slice (some ⟨hz, 0, none⟩) 2 zc] 27) := ⟨_, rfl⟩
          have hcz : Vz.heap[bz]? = some (.cells #[.string ⟨#[97, 49]⟩, .string ⟨#[55]⟩, .string ⟨#[120, 95, 121]⟩, .int .i64 258, .slice (some ⟨hz, 0, none⟩) 2 zc] 27 (0, 0)) := by rw [hVz, hbz]; exact alloc_new _ _
          have gvz : G U2 Vz := by rw [hVz]; exact hgz.alloc _
          have HEz := Lib.hid (show OwnE Vz U2.heap.size ⟨⟨#[97, 49]⟩, ⟨#[55]⟩, ⟨#[120, 95, 121]⟩, 258, .slice (some ⟨hz, 0, none⟩) 2 zc, gps⟩ by rw [hVz]; exact HUz.out.g ((G.refl _).alloc _))
          have hltz : bz < Vz.heap.size := heap_lt hcz
          have hlez : U2.heap.size ≤ bz := by rw [hbz]; exact hgz.size
          have hlhz : hz < bz := by rw [hbz]; exact hlz2
          have HVz := Lib.hid hVz
          have HBz := Lib.hid hbz
          have HCz := Lib.hid hcz
          clear hownu hown9 hVz hbz hcz hlz2 hgz a0 a1 a2 a3 a4 HCE KW HUz
          go_upto_region 35 with fail
          rw [← HBz.out, ← HVz.out]
          have z4 := (cells5 HCz.out).2.2.2.2
          obtain ⟨zv, hzv⟩ : ∃ v, Vz.cell? ⟨hz, 5, none⟩ = some v := ⟨_, by have := HEz.out.own.cells (g := hz) rfl 5 (.int .i64 2) rfl; rw [addr_add, Nat.zero_add] at this; exact this⟩
          have y5 : Vz.frozen? ⟨hz, 5, none⟩ = false := own_froz HEz.out.own
          have hw2 : IntKind.i64.wrap ((i : Int) - 2) = (i : Int) - 2 := IntWalk.i64_in _ (by omega)
          go_upto_region 36 with fail
          obtain ⟨U3, hU3⟩ : ∃ X : World, X = Vz.setCell ⟨hz, 5, none⟩ (.int .i64 ((i : Int) - 2)) := ⟨_, rfl⟩
          rw [← hU3]
          have gU3 : G U2 U3 := by rw [hU3]; exact gvz.setCell hlz1 _
          obtain ⟨Z, e1, e2, e3, e4, e5, e6, e7⟩ := HEz.out.setP (h := hz) (q := 5) (u := .int .i64 ((i : Int) - 2)) rfl (.inr ⟨by omega, _, rfl⟩)
          rw [← hU3] at e7
          have HZE := Lib.hid (show EdgAt U3 ⟨⟨#[97, 49]⟩, ⟨#[55]⟩, ⟨#[120, 95, 121]⟩, 258, .slice (some ⟨hz, 0, none⟩) 2 zc, Z.ps⟩ from by
            have h9 := e7.at
            obtain ⟨qf, qt, ql, qm, qv, qps⟩ := Z
            simp only at e1 e2 e3 e4 e5 e6
            subst e1 e2 e3 e4 e5
            exact h9)
          have HZ1 := Lib.hid (show U3.heap[bz]? = some (.cells #[.string ⟨#[97, 49]⟩, .string ⟨#[55]⟩, .string ⟨#[120, 95, 121]⟩, .int .i64 258, .slice (some ⟨hz, 0, none⟩) 2 zc] 27 (0, 0)) by
            rw [hU3]
            exact ((Fr.refl (fun q => q = hz) Vz).setCell (p := ⟨hz, 5, none⟩) (.inl rfl) _).block _ hltz (by omega) |>.trans HCz.out)
          have HX1 := Lib.hid ((gU3.block (heap_lt HX1.out)).trans HX1.out)
          have HY1 := Lib.hid ((gU3.block (heap_lt HY1.out)).trans HY1.out)
          have HXE := Lib.hid (HXE.out.g gU3)
          have HYE := Lib.hid (HYE.out.g gU3)
          have gA3 := gA2.trans gU3
          clear hU3 z4 y5 hzv HVz HBz HCz HEz gvz hltz hlez hlhz gU3 hlz1 e1 e2 e3 e4 e5 e6 e7 gA2 hw2
          obtain ⟨a0, a1, a2, a3, a4⟩ := cells5 HX1.out
          obtain ⟨d0, d1, d2, d3, d4⟩ := cells5 HY1.out
          have HD := Lib.hid (does_any _ _ ⟨#[107]⟩ U3 HXE.out HYE.out)
          unfold ev at HD
          simp only at HD
          go_wp2_with fail
          refine HD.out.mono ?_
          rintro e U4 ⟨rfl, hg4⟩
          have HX1 := Lib.hid ((hg4.block (heap_lt HX1.out)).trans HX1.out)
          have HY1 := Lib.hid ((hg4.block (heap_lt HY1.out)).trans HY1.out)
          have HZ1 := Lib.hid ((hg4.block (heap_lt HZ1.out)).trans HZ1.out)
          have HXE := Lib.hid (HXE.out.g hg4)
          have HYE := Lib.hid (HYE.out.g hg4)
          have HZE := Lib.hid (HZE.out.g hg4)
          have gA4 := gA3.trans hg4
          clear a0 a1 a2 a3 a4 d0 d1 d2 d3 d4 HD hg4 gA3
          obtain ⟨a0, a1, a2, a3, a4⟩ := cells5 HY1.out
          obtain ⟨d0, d1, d2, d3, d4⟩ := cells5 HZ1.out
          have HD := Lib.hid (does_any _ _ ⟨#[108]⟩ U4 HYE.out HZE.out)
          unfold ev at HD
          simp only at HD
          go_wp2_with fail
          refine HD.out.mono ?_
          rintro e U5 ⟨rfl, hg4⟩
          have HX1 := Lib.hid ((hg4.block (heap_lt HX1.out)).trans HX1.out)
          have HZ1 := Lib.hid ((hg4.block (heap_lt HZ1.out)).trans HZ1.out)
          have HXE := Lib.hid (HXE.out.g hg4)
          have HZE := Lib.hid (HZE.out.g hg4)
          have gA5 := gA4.trans hg4
          clear a0 a1 a2 a3 a4 d0 d1 d2 d3 d4 HD hg4 gA4 HYE HY1
          obtain ⟨a0, a1, a2, a3, a4⟩ := cells5 HZ1.out
          obtain ⟨d0, d1, d2, d3, d4⟩ := cells5 HX1.out
          have HD := Lib.hid (does_any _ _ ⟨#[109]⟩ U5 HZE.out HXE.out)
          unfold ev at HD
          simp only at HD
          go_wp2_with fail
          refine HD.out.mono ?_
          rintro e U6 ⟨rfl, hg4⟩
          have gA6 := gA5.trans hg4
          clear a0 a1 a2 a3 a4 d0 d1 d2 d3 d4 HD hg4 gA5 HXE HX1 HZE HZ1
          go_wp2_with fail
          go_roundw
          case rel => exact ⟨i + 1, by omega, by go_num, gA6⟩
          case measure => simp [intOf]; omega
        · have hl7I : ¬ (i : Int) < 7 := by omega
          obtain ⟨WC, rfl⟩ : ∃ WC : World, WC = wr := ⟨_, rfl⟩
          have HGC := Lib.hid (hg.trans hga)
          have HKC := Lib.hid (HKP.out.1.g (hg.trans hga))
          clear hg hga
          go_upto_region 39 with fail
          obtain ⟨bq, hbq⟩ : ∃ b, b = WC.heap.size := ⟨_, rfl⟩
          obtain ⟨VM, hVM⟩ : ∃ X : World, X = WC.alloc (.cells #[.string ⟨#[97]⟩, .string ⟨#[98]⟩, .string ⟨#[99]⟩, .int .i64 0, .slice none 0 0] 27) := ⟨_, rfl⟩
          rw [← hVM, ← hbq]
          have hM0 : VM.heap[bq]? = some (.cells #[.string ⟨#[97]⟩, .string ⟨#[98]⟩, .string ⟨#[99]⟩, .int .i64 0, .slice none 0 0] 27 (0, 0)) := by rw [hVM, hbq]; exact alloc_new _ _
          have gM0 : G WC VM := by rw [hVM]; exact (G.refl _).alloc _
          have hqV := heap_lt hM0
          have HBQ := Lib.hid hbq
          have HM0 := Lib.hid hM0
          clear hM0 hVM hbq
          go_wp2_with fail
          go_loopw [15] (fun iv wr => ∃ (i : Nat) (ps : List Prp) (pp : Option Addr) (pc : Nat), i ≤ 10 ∧ iv = .int .i64 i ∧ Hid (wr.heap[bq]? = some (.cells #[.string ⟨#[97]⟩, .string ⟨#[98]⟩, .string ⟨#[99]⟩, .int .i64 0, .slice pp i pc] 27 (0, 0)) ∧ wr.ownsRow VM.heap.size 56 4 (.slice pp i pc) i (pcells ps) ∧ PSz ps ∧ ps.length = i ∧ VM.heap.size ≤ wr.heap.size) ∧ G WC wr) (fun iv _ => 10 - (intOf iv).toNat)
          case atStart => exact ⟨0, [], none, 0, by omega, rfl, Lib.hid ⟨HM0.out, World.ownsRow_nil _ _ _ _, (fun p hp => by cases hp), rfl, Nat.le_refl _⟩, gM0⟩
          case round =>
            obtain ⟨i, ps, pp, pc, hi10, rfl, HM, hgm⟩ := hrel
            by_cases hl9 : i < 10
            · have hl9I : (i : Int) < 10 := by omega
              have hi0 : (0 : Int) ≤ (i : Int) := by omega
              have KW := Lib.hid (HKC.out.g hgm)
              obtain ⟨a0, a1, a2, a3, a4⟩ := cells5 HM.out.1
              obtain ⟨d0, d1, d2, d3, d4⟩ := cells5 KW.out.b
              have hat : EdgAt wr ⟨⟨#[97]⟩, ⟨#[98]⟩, ⟨#[99]⟩, 0, .slice pp i pc, ps⟩ := ⟨by
                show Rdr wr 4 (.slice pp i pc) ps.length (pcells ps)
                rw [HM.out.2.2.2.1]; exact rdr_of_owns HM.out.2.1, by show ps.length ≤ _; rw [HM.out.2.2.2.1]; omega, HM.out.2.2.1, by show (1 : Nat) ≤ _; unfold maxLen; omega, by show (1 : Nat) ≤ _; unfold maxLen; omega, by show (1 : Nat) ≤ _; unfold maxLen; omega⟩
              have HD := Lib.hid (does_any _ _ ⟨#[104]⟩ wr hat KW.out.e)
              unfold ev goodE at HD
              simp only at HD
              clear hat
              go_wp2_with fail
              refine HD.out.mono ?_
              rintro e w2 ⟨rfl, hg2⟩
              have hM2 := (hg2.block (heap_lt HM.out.1)).trans HM.out.1
              have hO2 := hg2.ownsRow HM.out.2.1
              have hT2 := (KW.out.g hg2).t
              have hV2 : VM.heap.size ≤ w2.heap.size := by have := HM.out.2.2.2.2; have := hg2.size; omega
              have HM2 := Lib.hid (And.intro hM2 hO2)
              have gm2 := hgm.trans hg2
              clear a0 a1 a2 a3 a4 d0 d1 d2 d3 d4 HD
              obtain ⟨a0, a1, a2, a3, a4⟩ := cells5 hM2
              obtain ⟨x0, x1, x2⟩ := cells3t hT2
              have y4 : w2.frozen? ⟨bq, 4, none⟩ = false := by unfold World.frozen?; rw [hM2]; simp
              clear hM2 hO2 hT2 hg2
              have hcw : IntKind.i64.wrap (97 + (i : Int)) = 97 + (i : Int) := IntWalk.i64_in _ (by omega)
              have hcu := u8_in i hl9
              obtain ⟨s1, hs1, hcv⟩ := conv_one w2 i hl9
              have HS1 := Lib.hid hs1
              have HOP := Lib.hid HM2.out.2
              have x0' := ((G.refl w2).alloc (.cells #[.int .u8 (97 + (i : Int))] 5)).cell x0
              have x1' := ((G.refl w2).alloc (.cells #[.int .u8 (97 + (i : Int))] 5)).cell x1
              have x2' := ((G.refl w2).alloc (.cells #[.int .u8 (97 + (i : Int))] 5)).cell x2
              clear hs1 x0 x1 x2
              go_upto_region 41 with (at_builtin; go_loud (refine wpList_appendR _ rfl _ _ 25 rfl VM.heap.size 56 j0 (.agg #[.string ⟨#[]⟩, .int .i64 0, .int .i64 0, .string ⟨#[]⟩]) 4 48 Try.underlying25 HJ.out.1 HJ.out.2.1 HJ.out.2.2.1 HJ.out.2.2.2 rfl (by decide) (.slice pp i pc) i (pcells ps) rfl ((HOP.out.alloc _).alloc _) (.slice (some ⟨w2.heap.size + 1, 0, none⟩) 1 1) 1 (pcells [(s1, 2, 0, ⟨#[113, 32, 114]⟩)]) rfl (by have h9 := rdr_alloc (w2.alloc (.cells #[.int .u8 (97 + (i : Int))] 5)) (pcells [(s1, 2, 0, ⟨#[113, 32, 114]⟩)]) 56 (0, 0) 4 1 1 rfl; rw [World.size_alloc] at h9; exact h9) (pcells_one _) (by unfold maxLen; omega) (by omega) (by simp; omega) ?_); intro mp mc w3 hown3 hgrow3 hat3; have gw3 : Fr (fun q => (Value.slice pp i pc).ownBlock = some q) w2 w3 := (((Fr.refl _ w2).alloc _).alloc _).trans (grownBy_fr hgrow3) (fun _ _ h => h); have hap : ∀ q, (Value.slice pp i pc).ownBlock = some q → VM.heap.size ≤ q := (fun q hq => (HOP.out.lt q hq).1); have hb3 := (gw3.block bq (heap_lt HM2.out.1) (fun hq => by have := hap bq hq; omega)).trans HM2.out.1; have a4 := (cells5 hb3).2.2.2.2; have y4 : w3.frozen? ⟨bq, 4, none⟩ = false := (by unfold World.frozen?; rw [hb3]; simp); have HB3 := Lib.hid hb3; have HO3 := Lib.hid hown3; have HG3 := Lib.hid (And.intro gw3 hap); clear hgrow3 hat3 hb3 hown3 gw3 hap)
              obtain ⟨Y, hY⟩ : ∃ X : World, X = w3.setCell ⟨bq, 4, none⟩ (.slice mp (i + 1) mc) := ⟨_, rfl⟩
              rw [← hY]
              have hzv : VM.heap.size ≤ w3.heap.size := by have := HG3.out.1.size; omega
              have HN := Lib.hid (show Y.heap[bq]? = some (.cells #[.string ⟨#[97]⟩, .string ⟨#[98]⟩, .string ⟨#[99]⟩, .int .i64 0, .slice mp (i + 1) mc] 27 (0, 0)) ∧ Y.ownsRow VM.heap.size 56 4 (.slice mp (i + 1) mc) (i + 1) (pcells (ps ++ [(s1, 2, 0, ⟨#[113, 32, 114]⟩)])) ∧ PSz (ps ++ [(s1, 2, 0, ⟨#[113, 32, 114]⟩)]) ∧ (ps ++ [(s1, 2, 0, ⟨#[113, 32, 114]⟩)] : List Prp).length = i + 1 ∧ VM.heap.size ≤ Y.heap.size from by
                refine ⟨by rw [hY]; exact heap_setCell_at _ _ 4 _ _ _ _ HB3.out, ?_, fun q hq => ?_, by rw [List.length_append, HM.out.2.2.2.1]; rfl, ?_⟩
                · rw [hY, pcells_app]
                  exact ownsRow_setCell_below HO3.out hqV _
                · rcases List.mem_append.1 hq with h | h
                  · exact HM.out.2.2.1 q h
                  · rw [List.mem_singleton.1 h]
                    exact ⟨by show s1.size ≤ _; rw [HS1.out]; unfold maxLen; omega, by show (3 : Nat) ≤ _; unfold maxLen; omega⟩
                · rw [hY]; simpa [World.setCell] using hzv)
              have gY : G WC Y := by
                rw [hY]
                exact (g_of_fr gm2 HG3.out.1 (fun q hq => by have := HG3.out.2 q hq; have := gM0.size; omega)).setCell (by show WC.heap.size ≤ bq; rw [HBQ.out]; exact Nat.le_refl _) _
              clear hY a0 a1 a2 a3 x0' x1' x2' hcw hcu hcv
              go_wp2_with fail
              go_roundw
              case rel => exact ⟨i + 1, _, mp, mc, by omega, by go_num, HN, gY⟩
              case measure => simp [intOf]; omega
            · have hl9I : ¬ (i : Int) < 10 := by omega
              obtain ⟨WE, rfl⟩ : ∃ WE : World, WE = wr := ⟨_, rfl⟩
              have KE := Lib.hid (HKC.out.g hgm)
              have HP := Lib.hid (rput_any (goodE bp) WE KE.out.e)
              have HSM := Lib.hid (put_small (goodE bp))
              obtain ⟨lB, hlB⟩ : ∃ l, l = putE (goodE bp) := ⟨_, rfl⟩
              obtain ⟨ck, hck⟩ : ∃ c, c = checkE (goodE bp) := ⟨_, rfl⟩
              rw [← hlB] at HSM
              rw [← hlB, ← hck] at HP
              clear hlB hck
              obtain ⟨n, hn⟩ : ∃ n, n = lB.length := ⟨_, rfl⟩
              rw [← hn] at HP HSM
              have hnn := HSM.out
              have HN := Lib.hid hn
              clear hn HSM
              obtain ⟨a0, a1, a2, a3, a4⟩ := cells5 KE.out.b
              unfold ev goodE at HP
              simp only at HP
              go_wp2_with fail
              refine HP.out.mono ?_
              rintro e w2 ⟨v, rfl, hown, hg2⟩
              obtain ⟨sp, sc, rfl, hs1, hs2⟩ := own_slice hown
              have HB := Lib.hid hown
              have HG2 := Lib.hid hg2
              have hsc : sc ≤ 9223372036854775807 := hs2
              clear hown hg2 a0 a1 a2 a3 a4 HP hs2
              go_wp2_with fail
              go_loopw [18] (fun iv wr => ∃ i : Nat, i ≤ n + 1 ∧ iv = .int .i64 i ∧ G w2 wr) (fun iv _ => n + 1 - (intOf iv).toNat)
              case atStart => exact ⟨0, by omega, rfl, G.refl _⟩
              case round =>
                obtain ⟨i, hin, rfl, hgi⟩ := hrel
                by_cases hli : i ≤ n
                · have hliI : (i : Int) ≤ (n : Int) := by omega
                  have hi0 : (0 : Int) ≤ (i : Int) := by omega
                  have hic : i ≤ sc := by omega
                  have hiw : IntKind.i64.wrap (i : Int) = i := IntWalk.i64_in _ (by omega)
                  have hlen : (lB.take i).length = i := by rw [List.length_take, ← HN.out]; omega
                  have HPA := Lib.hid (parses_any (lB.take i) sp sc wr (by rw [hlen]; exact rdr_take1 ((rdr_of_owns HB.out).g hgi) hli) (by omega) hsc)
                  rw [hlen] at HPA
                  clear hlen
                  go_wp2_with fail
                  refine HPA.out.mono ?_
                  rintro e w3 ⟨rfl, hg3⟩
                  have hg23 := hgi.trans hg3
                  clear HPA hg3 hgi
                  go_wp2_with fail
                  go_loopw [19] (fun kv wr => ∃ k : Nat, k ≤ 8 ∧ kv = .int .i64 k ∧ G w3 wr) (fun kv _ => 8 - (intOf kv).toNat)
                  case atStart => exact ⟨0, by omega, rfl, G.refl _⟩
                  case round =>
                    obtain ⟨k, hk8, rfl, hgk⟩ := hrel
                    by_cases hlk : k < 8
                    · have hlkI : (k : Int) < 8 := by omega
                      have hk0 : (0 : Int) ≤ (k : Int) := by omega
                      by_cases hlt9 : i < n
                      · have hlt9I : (i : Int) < (n : Int) := by omega
                        have HBK := Lib.hid ((hg23.trans hgk).ownsRow HB.out)
                        have HBO := Lib.hid (bys_one lB)
                        go_upto_region 55 with (at_builtin; go_loud (refine wpList_appendR _ rfl _ _ 22 rfl wr.heap.size 5 k0 (.int .u8 0) 1 1 Try.underlying22 HK9.out.1 HK9.out.2.1 HK9.out.2.2.1 HK9.out.2.2.2 rfl (by decide) _ 0 [] rfl (World.ownsRow_made wr #[] 0 (Nat.le_refl _) (Nat.zero_le _) rfl) (.slice sp n sc) n (bys lB) rfl ((rdr_of_owns HBK.out).g ((G.refl wr).alloc _)) HBO.out (by unfold maxLen; omega) (by omega) (by simp) ?_); intro mp mc w5 hown5 hgrow5 hat5)
                        simp only [Nat.zero_add, List.nil_append] at hown5 ⊢
                        have g5 : G wr w5 := ((G.refl wr).alloc _).grown hgrow5 (fun q h => by have := Option.some.inj h; simp at this; omega)
                        obtain ⟨gt, rfl, hgt1⟩ : ∃ g, mp = some ⟨g, 0, none⟩ ∧ wr.heap.size ≤ g := by
                          rcases id hown5.2 with ⟨-, h0⟩ | ⟨q, cap, cur, hv, hb, -⟩
                          · omega
                          · cases hv; exact ⟨q, rfl, hb⟩
                        obtain ⟨b, hb⟩ := lits_at hlk
                        obtain ⟨X5, hX5⟩ : ∃ X : World, X = w5.alloc (.cells (bys lits).toArray 5) := ⟨_, rfl⟩
                        have hl5 : X5.cell? ⟨w5.heap.size, k, none⟩ = some (.int .u8 b.toNat) := by
                          have h9 := cell_alloc_at w5 (bys lits) 5 (0, 0) k (.int .u8 b.toNat) (bys_get hb)
                          rw [Nat.zero_add] at h9
                          rw [hX5]; exact h9
                        have hO5 : X5.ownsRow wr.heap.size 5 1 (.slice (some ⟨gt, 0, none⟩) n mc) n (bys lB) := by rw [hX5]; exact hown5.alloc _
                        have g5' : G wr X5 := by rw [hX5]; exact g5.alloc _
                        obtain ⟨zc, hzc⟩ : ∃ v, X5.cell? ⟨gt, i, none⟩ = some v := by
                          have h9 := hO5.cells (g := gt) rfl i _ (List.getElem?_eq_getElem (by rw [bys_len, ← HN.out]; exact hlt9))
                          rw [addr_add, Nat.zero_add] at h9
                          exact ⟨_, h9⟩
                        have hyz : X5.frozen? ⟨gt, i, none⟩ = false := own_froz hO5
                        have HO5 := Lib.hid hO5
                        have hX5' : X5 = w5.alloc (.cells #[.int .u8 0, .int .u8 1, .int .u8 2, .int .u8 3, .int .u8 34, .int .u8 127, .int .u8 128, .int .u8 255] 5) := by rw [hX5]; rfl
                        obtain ⟨x9, hx9⟩ : ∃ x : Int, x = (b.toNat : Int) := ⟨_, rfl⟩
                        rw [← hx9] at hl5
                        have HX5' := Lib.hid hX5'
                        have HX9 := Lib.hid hx9
                        rw [hX5'] at hl5 hzc hyz
                        clear hown5 hgrow5 hat5 g5 hX5 hX5' hO5 hb hx9
                        go_upto_region 56 with fail
                        try rw [← HX5'.out]
                        obtain ⟨Y, hY⟩ : ∃ X : World, X = X5.setCell ⟨gt, i, none⟩ (.int .u8 x9) := ⟨_, rfl⟩
                        rw [← hY]
                        have hOY : Y.ownsRow wr.heap.size 5 1 (.slice (some ⟨gt, 0, none⟩) n mc) n (bys (lB.set i b)) := by rw [hY, bys_set, HX9.out]; exact own_set _ HO5.out
                        have gY : G wr Y := by rw [hY]; exact g5'.setCell hgt1 _
                        obtain ⟨mp', mc', he9, hm1, hm2⟩ := own_slice hOY
                        cases he9
                        have hlen : (lB.set i b).length = n := by rw [List.length_set, ← HN.out]
                        have HPB := Lib.hid (parses_any (lB.set i b) (some ⟨gt, 0, none⟩) mc Y (by rw [hlen]; exact rdr_of_owns hOY) (by rw [hlen]; exact hm1) hm2)
                        rw [hlen] at HPB
                        clear hlen hm1 hm2 hY hOY hl5 hzc hyz
                        go_wp2_with fail
                        refine HPB.out.mono ?_
                        rintro e w7 ⟨rfl, hg7⟩
                        have gk7 := hgk.trans (gY.trans hg7)
                        clear gY hg7 g5' HPB
                        go_wp2_with fail
                        go_roundw
                        case rel => exact ⟨k + 1, by omega, by go_num, gk7⟩
                        case measure => simp [intOf]; omega
                      · have hlt9I : ¬ (i : Int) < (n : Int) := by omega
                        go_wp2_with fail
                        go_roundw
                        case rel => exact ⟨i + 1, by omega, by go_num, hg23.trans hgk⟩
                        case measure => simp [intOf]; omega
                    · have hlkI : ¬ (k : Int) < 8 := by omega
                      go_wp2_with fail
                      go_roundw
                      case rel => exact ⟨i + 1, by omega, by go_num, hg23.trans hgk⟩
                      case measure => simp [intOf]; omega
                · have hliI : ¬ (i : Int) ≤ (n : Int) := by omega
                  have HBK := Lib.hid (hgi.ownsRow HB.out)
                  have hwz : WE.heap.size ≤ wr.heap.size := by have := hgi.size; have := HG2.out.size; omega
                  have HGF := Lib.hid ((HKP.out.2.trans HGC.out).trans (hgm.trans HG2.out))
                  have HGE := Lib.hid (HG2.out.trans hgi)
                  have HW0 := Lib.hid ((HKP.out.2.trans HGC.out).trans hgm)
                  go_wp2_with (first
                    | (at_builtin; go_loud (refine wpList_appendR _ rfl _ _ 22 rfl WE.heap.size 5 k0 (.int .u8 0) 1 1 Try.underlying22 HK9.out.1 HK9.out.2.1 HK9.out.2.2.1 HK9.out.2.2.2 rfl (by decide) (.slice sp n sc) n (bys lB) rfl (HBK.out.alloc _) (.slice (some ⟨wr.heap.size, 0, none⟩) 1 1) 1 (bys [0]) rfl (rdr_alloc wr (bys [0]) _ _ 1 1 1 rfl) (bys_one _) (by unfold maxLen; omega) (by omega) (by simp; omega) ?_); intro mp mc w5 hown5 hgrow5 hat5; have g5 : G WE w5 := (HGE.out.alloc _).grown hgrow5 (fun q h => (HBK.out.lt q h).1); have HO5 := Lib.hid hown5; have HG5 := Lib.hid g5; clear hown5 hgrow5 hat5 g5))
                  rw [← bys_app] at HO5
                  obtain ⟨mp', mc', he9, hm1, hm2⟩ := own_slice HO5.out
                  cases he9
                  have hlen : (lB ++ [0]).length = n + 1 := by rw [List.length_append, ← HN.out]; rfl
                  have HPB := Lib.hid (parses_any (lB ++ [0]) mp mc w5 (by rw [hlen]; exact rdr_of_owns HO5.out) (by rw [hlen]; exact hm1) hm2)
                  rw [hlen] at HPB
                  refine HPB.out.mono ?_
                  rintro e w7 ⟨rfl, hg7⟩
                  have g7 := HG5.out.trans hg7
                  clear hg7 HPB
                  go_wp2_with fail
                  refine (awake_any w7).mono ?_
                  rintro e w8 ⟨rfl, hg8⟩
                  go_wp2_with fail
                  go_ret
                  exact ⟨rfl, HW0.out.trans (g7.trans hg8)⟩

end Go.Proofs.Ytfdajignnnhnmaa
