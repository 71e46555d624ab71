/- three rows of rows, one behind the other: the walk of DiffChain -/
import Derived.Test.YthhjioehkgbphaaDiffU
namespace Go.Proofs.Ythhjioehkgbphaa
set_option linter.unusedVariables false
set_option linter.unusedSimpArgs false
open Go.RowKit Go.Shelf
attribute [local go_sem] Oper.semAt_some

/-- rows all of whose blocks are in S -/
def InS (S : Nat → Prop) (W : World) (v : Value) (ls : List (List Val)) : Prop :=
  ∃ rv : List Value, Rdr W 1 v ls.length rv ∧ (∀ g, v.ownBlock = some g → S g) ∧ ∀ (i : Nat) (l : List Val), ls[i]? = some l → ∃ x, rv[i]? = some x ∧ RdrV W x l ∧ ∀ g, x.ownBlock = some g → S g
theorem InS.rdr {S : Nat → Prop} {W : World} {v : Value} {ls : List (List Val)} (h : InS S W v ls) : RdrRV W v ls := by
  obtain ⟨rv, h1, -, h3⟩ := h
  refine ⟨rv, h1, fun i l hl => ?_⟩
  obtain ⟨x, a, b, -⟩ := h3 i l hl
  exact ⟨x, a, b⟩
theorem InS.fr {S T : Nat → Prop} {W W' : World} {v : Value} {ls : List (List Val)} (h : InS S W v ls) (hf : Fr T W W') (hs : ∀ g, S g → ¬ T g) : InS S W' v ls := by
  obtain ⟨rv, h1, h2, h3⟩ := h
  refine ⟨rv, h1.fr hf (fun g hg => hs g (h2 g hg)), h2, fun i l hl => ?_⟩
  obtain ⟨x, a, b, c⟩ := h3 i l hl
  exact ⟨x, a, Rdr.fr b hf (fun g hg => hs g (c g hg)), c⟩
theorem InS.mono {S T : Nat → Prop} {W : World} {v : Value} {ls : List (List Val)} (h : InS S W v ls) (hs : ∀ g, S g → T g) : InS T W v ls := by
  obtain ⟨rv, h1, h2, h3⟩ := h
  refine ⟨rv, h1, fun g hg => hs g (h2 g hg), fun i l hl => ?_⟩
  obtain ⟨x, a, b, c⟩ := h3 i l hl
  exact ⟨x, a, b, fun g hg => hs g (c g hg)⟩
theorem OwnRV.inS {base : Nat} {W : World} {v : Value} {ls : List (List Val)} (h : OwnRV base W v ls) : InS (fun g => base ≤ g ∧ g < W.heap.size) W v ls := by
  obtain ⟨rv, h1, h2⟩ := h
  refine ⟨rv, rdr_of_owns h1, fun g hg => h1.lt g hg, fun i l hl => ?_⟩
  obtain ⟨x, a, b, c⟩ := h2 i l hl
  exact ⟨x, a, b, fun g hg => ⟨(c g hg).1, (c g hg).2.1⟩⟩
theorem InS.nil (S : Nat → Prop) (W : World) : InS S W (.slice none 0 0) [] := ⟨[], Rdr.nil _ _ _ _, fun g h => (by cases h), by simp⟩
def ChainS (S : Nat → Prop) (W : World) : List (List Val) → List Clo → List (List Val) → Prop
  | xs, [], ys => xs = ys
  | xs, c :: cs, ys => ∃ zs, Step W xs c zs ∧ InS S W c.vp c.ps ∧ InS S W c.vm c.ms ∧ ChainS S W zs cs ys
theorem ChainS.chain {S : Nat → Prop} {W : World} : ∀ {cs : List Clo} {xs ys : List (List Val)}, ChainS S W xs cs ys → Chain W xs cs ys
  | [], _, _, h => h
  | c :: cs, xs, ys, ⟨zs, h1, _, _, h2⟩ => ⟨zs, h1, h2.chain⟩
theorem ChainS.fr {S T : Nat → Prop} {W W' : World} (hf : Fr T W W') (hs : ∀ g, S g → ¬ T g) : ∀ {cs : List Clo} {xs ys : List (List Val)}, ChainS S W xs cs ys → ChainS S W' xs cs ys
  | [], _, _, h => h
  | c :: cs, xs, ys, ⟨zs, h1, h2, h3, h4⟩ => ⟨zs, ⟨⟨(h2.fr hf hs).rdr, h1.p.cap, h1.p.ok⟩, ⟨(h3.fr hf hs).rdr, h1.m.cap, h1.m.ok⟩, h1.okx, h1.rx, h1.rp, h1.rm, h1.f1, h1.f2, h1.okl, h1.fold⟩, h2.fr hf hs, h3.fr hf hs, h4.fr hf hs⟩
theorem ChainS.mono {S T : Nat → Prop} {W : World} (hs : ∀ g, S g → T g) : ∀ {cs : List Clo} {xs ys : List (List Val)}, ChainS S W xs cs ys → ChainS T W xs cs ys
  | [], _, _, h => h
  | c :: cs, xs, ys, ⟨zs, h1, h2, h3, h4⟩ => ⟨zs, h1, h2.mono hs, h3.mono hs, h4.mono hs⟩
theorem ChainS.app {S : Nat → Prop} {W : World} : ∀ {cs ds : List Clo} {xs ys zs : List (List Val)}, ChainS S W xs cs ys → ChainS S W ys ds zs → ChainS S W xs (cs ++ ds) zs
  | [], _, _, _, _, h, k => by cases h; exact k
  | c :: cs, ds, xs, ys, zs, ⟨ws, h1, h2, h3, h4⟩, k => ⟨ws, h1, h2, h3, h4.app k⟩
theorem mrgR_nil (xs : List (List Val)) : mrgR xs [] = xs.map fun x => (x, true, false) := by
  induction xs with
  | nil => simp [mrgR]
  | cons x xs ih => rw [mrgR, ih]; rfl
theorem rowsOK_nil : RowsOK [] := ⟨by simp, by simp, by simp⟩
/-- a close of nothing -/
theorem step_nil {W : World} {xs : List (List Val)} (hx : RowsS xs) (rx : rgt none xs = true) : Step W xs ⟨.slice none 0 0, .slice none 0 0, [], []⟩ xs := by
  have hn : RowsIn W (.slice none 0 0) [] := ⟨⟨[], Rdr.nil _ _ _ _, by simp⟩, by rintro p n c h; cases h; exact Nat.le_refl _, rowsOK_nil⟩
  have e1 : lft (mrgR xs []) = xs := by
    rw [mrgR_nil, lft, List.filter_map, List.map_map]
    rw [List.filter_eq_self.2 (by simp)]
    exact List.map_id' _
  refine ⟨hn, hn, hx.ok, rx, rfl, rfl, ?_, ?_, ?_, ?_⟩
  · intro x h; simp only [mrgR_nil, List.mem_map] at h; obtain ⟨y, -, rfl⟩ := h; rfl
  · intro x h; simp only [mrgR_nil, List.mem_map] at h; obtain ⟨y, -, rfl⟩ := h; rfl
  · simp only [e1]; exact hx.ok
  · simp only [e1]
    rw [mrgR_nil, uni, List.map_map]
    exact List.map_id' _
theorem infoC : (Try.prog.info? 36).map (fun i => (i.zero, i.size, i.bytes)) = some (some (.agg #[.int .i64 0, .int .i64 0, .slice none 0 0, .slice none 0 0]), 4, 64) := by kernel_rfl
/-- which rows, in which round -/
def Rl (xs ys zs : List (List Val)) : Nat → List (List Val)
  | 0 => []
  | 1 => xs
  | 2 => ys
  | _ => zs
theorem Rl_ok {xs ys zs : List (List Val)} (hx : RowsS xs) (hy : RowsS ys) (hz : RowsS zs) (rx : rgt none xs = true) (ry : rgt none ys = true) (rz : rgt none zs = true) (k : Nat) : RowsS (Rl xs ys zs k) ∧ rgt none (Rl xs ys zs k) = true := by
  unfold Rl
  split
  · exact ⟨⟨by simp, by simp, by simp⟩, rfl⟩
  · exact ⟨hx, rx⟩
  · exact ⟨hy, ry⟩
  · exact ⟨hz, rz⟩
set_option maxRecDepth 100000 in
set_option maxHeartbeats 1000000 in
theorem chain_any (xs ys zs : List (List Val)) (va vb vc : Value) (w : World) (ha : RdrRV w va xs) (hb : RdrRV w vb ys) (hc : RdrRV w vc zs) (hca : ∀ p n c, va = .slice p n c → n ≤ c) (hcb : ∀ p n c, vb = .slice p n c → n ≤ c) (hcc : ∀ p n c, vc = .slice p n c → n ≤ c)
    (tx : ∀ l ∈ xs, ∀ x ∈ l, x.2.2.size ≤ maxLen) (ty : ∀ l ∈ ys, ∀ x ∈ l, x.2.2.size ≤ maxLen) (tz : ∀ l ∈ zs, ∀ x ∈ l, x.2.2.size ≤ maxLen) (wx : ∀ l ∈ xs, l.length ≤ 4398046511104) (wy : ∀ l ∈ ys, l.length ≤ 4398046511104) (wz : ∀ l ∈ zs, l.length ≤ 4398046511104)
    (nx : xs.length ≤ 5864062014805) (ny : ys.length ≤ 5864062014805) (nz : zs.length ≤ 5864062014805) :
    Calls Try.prog 4 #[va, vb, vc] w fun e w' => e = .returned (.bool true) ∧ G w w' := by
  obtain ⟨ap, ac, rfl⟩ := ha.shape
  obtain ⟨bp, bc, rfl⟩ := hb.shape
  obtain ⟨cp, cc, rfl⟩ := hc.shape
  have HA := Lib.hid ha
  have HB := Lib.hid hb
  have HC := Lib.hid hc
  have HCA := Lib.hid hca
  have HCB := Lib.hid hcb
  have HCC := Lib.hid hcc
  have HTX := Lib.hid (And.intro tx wx)
  have HTY := Lib.hid (And.intro ty wy)
  have HTZ := Lib.hid (And.intro tz wz)
  clear ha hb hc hca hcb hcc tx ty tz wx wy wz
  go_enter Try.func4, Try.ntmps4
  go_wp2_with fail
  refine (awake_any w).mono ?_
  rintro e w1 ⟨rfl, hg1⟩
  go_wp2_with fail
  refine (size_any xs _ w1 (HA.out.g hg1) HTX.out.2 nx).mono ?_
  rintro e w' ⟨r1, rfl, ⟨s1, s2, hs1⟩, rfl⟩
  have HS1 := Lib.hid hs1
  clear hs1
  go_wp2_with fail
  refine (size_any ys _ w1 (HB.out.g hg1) HTY.out.2 ny).mono ?_
  rintro e w' ⟨r2, rfl, ⟨s3, s4, hs2⟩, rfl⟩
  have HS2 := Lib.hid hs2
  clear hs2
  go_wp2_with fail
  refine (size_any zs _ w1 (HC.out.g hg1) HTZ.out.2 nz).mono ?_
  rintro e w' ⟨r3, rfl, ⟨s5, s6, hs3⟩, rfl⟩
  have HS3 := Lib.hid hs3
  clear hs3
  by_cases hbig : 400 < r1 + r2 + r3
  · go_wp2_with fail
    go_ret
    exact ⟨rfl, hg1⟩
  have hbig' : decide (400 < r1 + r2 + r3) = false := by simpa using hbig
  have HX := Lib.hid (⟨HTX.out.1, (HS1.out (by omega)).2, (HS1.out (by omega)).1⟩ : RowsS xs)
  have HY := Lib.hid (⟨HTY.out.1, (HS2.out (by omega)).2, (HS2.out (by omega)).1⟩ : RowsS ys)
  have HZ := Lib.hid (⟨HTZ.out.1, (HS3.out (by omega)).2, (HS3.out (by omega)).1⟩ : RowsS zs)
  clear HS1 HS2 HS3 HTX HTY HTZ hbig
  have right : ∀ (ls : List (List Val)) (v : Value) (W : World), RdrRV w v ls → RowsS ls → G w W → Calls Try.prog 7 #[v] W fun e w' => e = .returned (.bool (rgt none ls)) ∧ G W w' := fun ls v W h1 h2 h3 =>
    dright_any ls v W (h1.g h3) h2.text (fun l hl => Nat.le_trans (h2.wide l hl) (by omega)) (Nat.le_trans h2.many (by omega))
  have Q1 := Lib.hid (fun W (hW : G w W) => right xs _ W HA.out HX.out hW)
  have Q2 := Lib.hid (fun W (hW : G w W) => right ys _ W HB.out HY.out hW)
  have Q3 := Lib.hid (fun W (hW : G w W) => right zs _ W HC.out HZ.out hW)
  clear right
  cases hrx : rgt none xs
  · rw [hrx] at Q1
    clear hrx
    go_wp2_with fail
    refine (Q1.out w1 hg1).mono ?_
    rintro e w2 ⟨rfl, hg2⟩
    have hg3 := hg1.trans hg2
    go_wp2_with fail
    go_ret
    exact ⟨rfl, hg3⟩
  rw [hrx] at Q1
  have RX := Lib.hid hrx
  clear hrx
  go_wp2_with fail
  refine (Q1.out w1 hg1).mono ?_
  rintro e w2 ⟨rfl, hga⟩
  have hg2 := hg1.trans hga
  clear hga hg1
  cases hrx : rgt none ys
  · rw [hrx] at Q2
    clear hrx
    go_wp2_with fail
    refine (Q2.out w2 hg2).mono ?_
    rintro e w3 ⟨rfl, hga⟩
    have hg3 := hg2.trans hga
    go_wp2_with fail
    go_ret
    exact ⟨rfl, hg3⟩
  rw [hrx] at Q2
  have RY := Lib.hid hrx
  clear hrx
  go_wp2_with fail
  refine (Q2.out w2 hg2).mono ?_
  rintro e w3 ⟨rfl, hga⟩
  have hg3 := hg2.trans hga
  clear hga hg2
  cases hrx : rgt none zs
  · rw [hrx] at Q3
    clear hrx
    go_wp2_with fail
    refine (Q3.out w3 hg3).mono ?_
    rintro e w4 ⟨rfl, hga⟩
    have hg4 := hg3.trans hga
    go_wp2_with fail
    go_ret
    exact ⟨rfl, hg4⟩
  rw [hrx] at Q3
  have RZ := Lib.hid hrx
  clear hrx
  go_wp2_with fail
  refine (Q3.out w3 hg3).mono ?_
  rintro e w4 ⟨rfl, hga⟩
  have hg4 := hg3.trans hga
  clear hga hg3 Q1 Q2 Q3
  have hRL := Rl_ok HX.out HY.out HZ.out RX.out RY.out RZ.out
  have HRL := Lib.hid hRL
  have cell : ∀ k, k < 3 → ∃ p c, (w4.alloc (.cells #[.slice ap xs.length ac, .slice bp ys.length bc, .slice cp zs.length cc] 25)).cell? ⟨w4.heap.size, k, none⟩ = some (.slice p (Rl xs ys zs (k + 1)).length c) ∧ RdrRV w (.slice p (Rl xs ys zs (k + 1)).length c) (Rl xs ys zs (k + 1)) ∧ (Rl xs ys zs (k + 1)).length ≤ c := by
    intro k hk
    have hcl := cell_alloc_at w4 [.slice ap xs.length ac, .slice bp ys.length bc, .slice cp zs.length cc] 25 (0, 0)
    rcases (by omega : k = 0 ∨ k = 1 ∨ k = 2) with rfl | rfl | rfl
    · exact ⟨ap, ac, hcl 0 _ rfl, HA.out, HCA.out _ _ _ rfl⟩
    · exact ⟨bp, bc, hcl 1 _ rfl, HB.out, HCB.out _ _ _ rfl⟩
    · exact ⟨cp, cc, hcl 2 _ rfl, HC.out, HCC.out _ _ _ rfl⟩
  have hg5 : G w (w4.alloc (.cells #[.slice ap xs.length ac, .slice bp ys.length bc, .slice cp zs.length cc] 25)) := hg4.alloc _
  have CELL := Lib.hid cell
  clear cell hRL
  obtain ⟨i0, hi, hz0, hz1, hz2⟩ := info_parts infoC
  clear hbig'
  have hs5 : (w4.alloc (.cells #[.slice ap xs.length ac, .slice bp ys.length bc, .slice cp zs.length cc] 25)).heap.size = w4.heap.size + 1 := by simp
  have HS5 := Lib.hid hs5
  clear hs5
  go_wp2_with fail
  generalize hwA : (w4.alloc (.cells #[.slice ap xs.length ac, .slice bp ys.length bc, .slice cp zs.length cc] 25)) = wA at CELL hg5 HS5 ⊢
  clear hwA
  go_loopw [7, 8, 54] (fun lv last i wr => ∃ (k : Nat) (cs : List Clo) (S : Nat → Prop) (p : Option Addr) (c : Nat), k ≤ 3 ∧ i = .int .i64 k ∧ last = .slice p (Rl xs ys zs k).length c ∧ (Rl xs ys zs k).length ≤ c ∧ Hid (RdrRV w (.slice p (Rl xs ys zs k).length c) (Rl xs ys zs k)) ∧
    wr.ownsRow wA.heap.size 36 4 lv cs.length (ccells cs) ∧ Hid (cs.length = 2 * k) ∧ Hid ((∀ g, lv.ownBlock = some g → ¬ S g) ∧ (∀ g, S g → g < wr.heap.size) ∧ ChainS S wr [] cs (Rl xs ys zs k)) ∧ G wA wr) (fun _ _ i _ => 3 - (intOf i).toNat)
  case atStart => exact ⟨0, [], fun _ => False, none, 0, by omega, rfl, rfl, Nat.le_refl _, (⟨[], Rdr.nil _ _ _ _, by simp [Rl]⟩ : RdrRV w (.slice none (Rl xs ys zs 0).length 0) (Rl xs ys zs 0)), World.ownsRow_nil _ _ _ _, (rfl : ([] : List Clo).length = 2 * 0), (⟨fun _ _ h => h, fun _ h => h.elim, rfl⟩ : (∀ g, (Value.slice none 0 0).ownBlock = some g → ¬ (fun _ => False) g) ∧ (∀ g, (fun _ => False) g → g < wA.heap.size) ∧ ChainS (fun _ => False) wA [] [] (Rl xs ys zs 0)), G.refl _⟩
  case round =>
    obtain ⟨k, cs, S, p, c, hk, rfl, rfl, hpc, HRD, hown, HM, HCH, hgA⟩ := hrel
    have hgw := hg5.trans hgA
    obtain ⟨lp, lc, hlv⟩ := ownsRow_shape hown
    subst hlv
    by_cases hlt : k < 3
    · obtain ⟨q, d, hcell, hrd1, hcap1⟩ := CELL.out k hlt
      have hc1 := hgA.cell hcell
      obtain ⟨y0, r0⟩ := HRL.out k
      obtain ⟨y1, r1'⟩ := HRL.out (k + 1)
      have HOF := Lib.hid (of_yes (Rl xs ys zs k) (Rl xs ys zs (k + 1)) (.slice p (Rl xs ys zs k).length c) (.slice q (Rl xs ys zs (k + 1)).length d) wr (HRD.out.g hgw) (hrd1.g hgw) (by rintro p n c h; cases h; exact hpc) (by rintro p n c h; cases h; exact hcap1) y0.ok y1.ok r0 r1')
      have HYS := Lib.hid (And.intro y0 (And.intro r0 (And.intro y1 r1')))
      have HRD1 := Lib.hid hrd1
      have HOWN := Lib.hid hown
      have hm6 : cs.length ≤ 6 := by have := HM.out; omega
      obtain ⟨m, hm⟩ : ∃ m, m = cs.length := ⟨_, rfl⟩
      rw [← hm] at HOWN hm6 ⊢
      have HME := Lib.hid hm
      have hA0 : (Value.slice (some ⟨w4.heap.size, 0, none⟩) 3 3) = .slice (some ⟨w4.heap.size, 0, none⟩) 3 3 := rfl
      clear hcell hrd1 y0 r0 y1 r1' hown hm hA0 HCA HCB HCC
      go_wp2_with fail
      refine HOF.out.mono ?_
      rintro e w6 ⟨vp, vm, rfl, hp, hm', hg6⟩
      obtain ⟨pp, pc, hpe⟩ := hp.rdr.shape
      subst hpe
      obtain ⟨mp, mc, hme⟩ := hm'.rdr.shape
      subst hme
      have HP6 := Lib.hid hp
      have HM6 := Lib.hid hm'
      clear hp hm' hc1
      have hz6 := hg6.size
      have hzA := hgA.size
      generalize hPN : (pls (mrgR (Rl xs ys zs k) (Rl xs ys zs (k + 1)))).length = pn at *
      generalize hMN : (mns (mrgR (Rl xs ys zs k) (Rl xs ys zs (k + 1)))).length = mn at *
      have HPN := Lib.hid hPN
      have HMN := Lib.hid hMN
      clear hPN hMN
      go_wp2_with (at_builtin; refine wpList_append2 _ rfl _ _ 30 rfl wA.heap.size 36 i0 (.agg #[.int .i64 0, .int .i64 0, .slice none 0 0, .slice none 0 0]) 4 64 Try.underlying30 hi hz0 hz1 hz2 rfl (by decide) (.slice lp m lc) m (ccells cs) rfl ((hg6.ownsRow HOWN.out).alloc _) ⟨w6.heap.size, 0, none⟩ 2 2 [.int .i64 0, .int .i64 0, .slice pp pn pc, .slice mp mn mc, .int .i64 0, .int .i64 0, .slice none 0 0, .slice none 0 0] rfl rfl (World.news_of_block (cs := #[.int .i64 0, .int .i64 0, .slice pp pn pc, .slice mp mn mc, .int .i64 0, .int .i64 0, .slice none 0 0, .slice none 0 0]) (t := 36) (fr := (0, 0)) (heap_alloc_new w6 _)) (by simp [Value.oneCell']) (by unfold maxLen; omega) (by omega) (by simp; omega) ?_; intro v' w7 hown7 hgrow7 hnil7 hat7)
      have hgr7 : Fr (fun q => (Value.slice lp m lc).ownBlock = some q) w6 w7 := (((G.refl w6).alloc _).fr _).trans (grownBy_fr hgrow7) (fun _ _ h => h)
      have hz7 := hgr7.size
      have hG7 : G wA w7 := ((hgA.trans hg6).alloc _).grown hgrow7 (fun k h => (HOWN.out.lt k h).1)
      have hlo : ∀ g, (Value.slice lp m lc).ownBlock = some g → ¬ (S g ∨ (wr.heap.size ≤ g ∧ g < w6.heap.size)) := fun g hg h => h.elim (HCH.out.1 g (by rw [← HME.out]; exact hg)) (fun h => by have := (HOWN.out.lt g hg).2; omega)
      have hch6 := ((HCH.out.2.2.fr (T := fun _ => False) (hg6.fr _) (fun _ _ h => h)).mono (T := fun g => S g ∨ (wr.heap.size ≤ g ∧ g < w6.heap.size)) (fun g h => .inl h)).app
        (ds := [Clo.mk (.slice pp pn pc) (.slice mp mn mc) (pls (mrgR (Rl xs ys zs k) (Rl xs ys zs (k + 1)))) (mns (mrgR (Rl xs ys zs k) (Rl xs ys zs (k + 1)))), Clo.mk (.slice none 0 0) (.slice none 0 0) [] []]) (zs := Rl xs ys zs (k + 1))
        ⟨_, step_of HYS.out.1 HYS.out.2.2.1 HYS.out.2.1 HYS.out.2.2.2 HP6.out.rdr HP6.out.caps HM6.out.rdr HM6.out.caps, HP6.out.inS.mono (fun g h => .inr h), HM6.out.inS.mono (fun g h => .inr h), _, step_nil HYS.out.2.2.1 HYS.out.2.2.2, InS.nil _ _, InS.nil _ _, rfl⟩
      have hch7 := hch6.fr hgr7 (fun g hS hg => hlo g hg hS)
      have hCC : (∀ g, v'.ownBlock = some g → ¬ (S g ∨ (wr.heap.size ≤ g ∧ g < w6.heap.size))) ∧ (∀ g, (S g ∨ (wr.heap.size ≤ g ∧ g < w6.heap.size)) → g < w7.heap.size) ∧ ChainS (fun g => S g ∨ (wr.heap.size ≤ g ∧ g < w6.heap.size)) w7 [] (cs ++ [Clo.mk (.slice pp pn pc) (.slice mp mn mc) (pls (mrgR (Rl xs ys zs k) (Rl xs ys zs (k + 1)))) (mns (mrgR (Rl xs ys zs k) (Rl xs ys zs (k + 1)))), Clo.mk (.slice none 0 0) (.slice none 0 0) [] []]) (Rl xs ys zs (k + 1)) := by
        refine ⟨fun g hg hS => ?_, fun g hS => ?_, hch7⟩
        · rcases hat7 g hg with h | h
          · exact hlo g h hS
          · simp at h
            rcases hS with h' | h'
            · have := HCH.out.2.1 g h'; omega
            · omega
        · rcases hS with h' | h'
          · have := HCH.out.2.1 g h'; omega
          · omega
      have HCC := Lib.hid hCC
      have hoo : w7.ownsRow wA.heap.size 36 4 v' (cs ++ [Clo.mk (.slice pp pn pc) (.slice mp mn mc) (pls (mrgR (Rl xs ys zs k) (Rl xs ys zs (k + 1)))) (mns (mrgR (Rl xs ys zs k) (Rl xs ys zs (k + 1)))), Clo.mk (.slice none 0 0) (.slice none 0 0) [] []]).length (ccells (cs ++ [Clo.mk (.slice pp pn pc) (.slice mp mn mc) (pls (mrgR (Rl xs ys zs k) (Rl xs ys zs (k + 1)))) (mns (mrgR (Rl xs ys zs k) (Rl xs ys zs (k + 1)))), Clo.mk (.slice none 0 0) (.slice none 0 0) [] []])) := by
        rw [List.length_append, ccells_app, ← HME.out]
        exact hown7
      have HM2 : Hid ((cs ++ [Clo.mk (.slice pp pn pc) (.slice mp mn mc) (pls (mrgR (Rl xs ys zs k) (Rl xs ys zs (k + 1)))) (mns (mrgR (Rl xs ys zs k) (Rl xs ys zs (k + 1)))), Clo.mk (.slice none 0 0) (.slice none 0 0) [] []]).length = 2 * (k + 1)) := Lib.hid (by rw [List.length_append, HM.out]; simp; omega)
      go_roundw
      case rel => exact ⟨k + 1, _, _, q, d, by omega, by go_num, rfl, hcap1, Lib.hid HRD1.out, hoo, HM2, HCC, hG7⟩
      case measure => simp [intOf]; omega
    · obtain rfl : k = 3 := by omega
      have hm6 : cs.length ≤ 6 := by have := HM.out; omega
      have HALL := Lib.hid (all_ok cs (.slice lp cs.length lc) wr zs (rdr_of_owns hown) (by omega) HCH.out.2.2.chain)
      generalize cs.length = m at HALL ⊢
      have HAW := Lib.hid (⟨HA.out, HCA.out, HX.out.ok⟩ : RowsIn w _ xs)
      have HBW := Lib.hid (⟨HB.out, HCB.out, HY.out.ok⟩ : RowsIn w _ ys)
      have same : ∀ (ls : List (List Val)) (u v : Value) (W : World), RdrRV W u ls → RdrRV W v ls → RowsS ls → Calls Try.prog 13 #[u, v] W fun e w' => e = .returned (.bool true) ∧ G W w' := fun ls u v W h1 h2 h3 => by
        have := sameVR_any ls ls u v W h1 h2 (Nat.le_trans h3.many (by omega)) (fun l hl => Nat.le_trans (h3.wide l hl) (by omega)) (fun l hl => Nat.le_trans (h3.wide l hl) (by omega))
        rwa [decide_eq_true rfl] at this
      have SM := Lib.hid same
      clear same hpc HRD hown HM HCH hm6 hgA CELL HRL
      go_wp2_with fail
      refine HALL.out.mono ?_
      rintro e w6 ⟨u, rfl, hu, hg6⟩
      obtain ⟨up, uc, hue⟩ := hu.rdr.shape
      subst hue
      have HU := Lib.hid hu.rdr
      have hw6 := hgw.trans hg6
      clear hu hg6 hgw HALL
      go_wp2_with fail
      refine (SM.out zs _ _ w6 HU.out (HC.out.g hw6) HZ.out).mono ?_
      rintro e w7 ⟨rfl, hga⟩
      have hw7 := hw6.trans hga
      clear hga hw6 HU
      go_wp2_with fail
      refine (of_yes xs ys _ _ w7 (HAW.out.rdr.g hw7) (HBW.out.rdr.g hw7) HCA.out HCB.out HX.out.ok HY.out.ok RX.out RY.out).mono ?_
      rintro e w8 ⟨vp, vm, rfl, hp, hm', hg8⟩
      obtain ⟨pp, pc, hpe⟩ := hp.rdr.shape
      subst hpe
      obtain ⟨mp, mc, hme⟩ := hm'.rdr.shape
      subst hme
      have hw8 := hw7.trans hg8
      obtain ⟨ps, hps⟩ : ∃ l, l = pls (mrgR xs ys) := ⟨_, rfl⟩
      obtain ⟨ms, hms⟩ : ∃ l, l = mns (mrgR xs ys) := ⟨_, rfl⟩
      have P := Lib.hid (parts xs ys RX.out RY.out)
      rw [← hps] at hp ⊢
      rw [← hms] at hm' ⊢
      have HP2 := Lib.hid (And.intro hp.rdr hp.caps)
      have HM2 := Lib.hid (And.intro hm'.rdr hm'.caps)
      have hst : ∀ W, G w8 W → Step W xs ⟨.slice pp ps.length pc, .slice mp ms.length mc, ps, ms⟩ ys := fun W hW => by
        have h1 := HP2.out
        have h2 := HM2.out
        rw [hps] at h1 ⊢
        rw [hms] at h2 ⊢
        exact step_of HX.out HY.out RX.out RY.out (h1.1.g hW) h1.2 (h2.1.g hW) h2.2
      have hst2 : ∀ W, G w8 W → Step W ys ⟨.slice mp ms.length mc, .slice pp ps.length pc, ms, ps⟩ xs := fun W hW => by
        have h1 := HP2.out
        have h2 := HM2.out
        rw [hps, ← P.out.n] at h1 ⊢
        rw [hms, ← P.out.q] at h2 ⊢
        exact step_of HY.out HX.out RY.out RX.out (h2.1.g hW) h2.2 (h1.1.g hW) h1.2
      have HF1 := Lib.hid (fold_step xs ys _ _ w8 (HAW.out.rdr.g hw8) HCA.out (hst w8 (G.refl _)))
      have HST2 := Lib.hid hst2
      clear hst hst2 hps hms hp hm' hg8 hw7
      go_wp2_with fail
      refine HF1.out.mono ?_
      rintro e w9 ⟨vx, rfl, hx, hg2⟩
      obtain ⟨xp, xc, hxe⟩ := hx.rdr.shape
      subst hxe
      have HF2 := Lib.hid (fold_step ys xs _ _ w9 hx.rdr hx.caps (HST2.out w9 hg2))
      have hw9 := hw8.trans hg2
      clear hx hg2 hw8 HF1 HST2
      go_wp2_with fail
      refine HF2.out.mono ?_
      rintro e w10 ⟨vy, rfl, hy, hg2⟩
      obtain ⟨yp, yc, hye⟩ := hy.rdr.shape
      subst hye
      have HY10 := Lib.hid hy.rdr
      have hw10 := hw9.trans hg2
      clear hy hg2 hw9 HF2
      go_wp2_with fail
      refine (SM.out xs _ _ w10 HY10.out (HAW.out.rdr.g hw10) HX.out).mono ?_
      rintro e w11 ⟨rfl, hga⟩
      have hw11 := hw10.trans hga
      clear hga hw10
      go_wp2_with fail
      go_ret
      exact ⟨rfl, hw11⟩
end Go.Proofs.Ythhjioehkgbphaa
