/- the buffer: Len -/
import Derived.Test.YthhmmjpgefinmaaBufT
set_option maxRecDepth 10000
namespace Go.Proofs.Ythhmmjpgefinmaa
set_option linter.unusedVariables false
set_option linter.unusedSimpArgs false
open Go.RowKit Go.Shelf
attribute [local go_sem] Oper.semAt_some

theorem perm_sum {l m : List Nat} (h : l.Perm m) : l.sum = m.sum := by
  induction h with
  | nil => rfl
  | cons x _ ih => simp [ih]
  | swap x y l => simp; omega
  | trans _ _ a b => rw [a, b]
theorem sum_step (o : Out) (s : List Out) : ∀ (ks : List Int), ks.Nodup → (ks.map (fun t => (gr t (o :: s)).length)).sum = (ks.map (fun t => (gr t s).length)).sum + (if otm o ∈ ks then 1 else 0)
  | [], _ => by simp
  | k :: ks, h => by
    have h2 := List.nodup_cons.1 h
    have ih := sum_step o s ks h2.2
    rw [List.map_cons, List.map_cons, List.sum_cons, List.sum_cons, ih, gr_cons]
    by_cases hk : otm o = k
    · have hn : ¬ otm o ∈ ks := by rw [hk]; exact h2.1
      rw [if_pos hk, if_neg hn, if_pos (by simp [hk])]
      simp only [List.length_cons]
      omega
    · rw [if_neg hk]
      by_cases hm : otm o ∈ ks
      · rw [if_pos hm, if_pos (List.mem_cons_of_mem _ hm)]; omega
      · rw [if_neg hm, if_neg (by simp [hk, hm])]; omega
theorem sum_zero : ∀ l : List Int, (l.map (fun _ => 0)).sum = 0
  | [] => rfl
  | k :: l => by simpa using sum_zero l
theorem sum_gr : ∀ (s : List Out) (ks : List Int), ks.Nodup → (∀ o ∈ s, otm o ∈ ks) → (ks.map (fun t => (gr t s).length)).sum = s.length
  | [], ks, _, _ => by
    have : ks.map (fun t => (gr t []).length) = ks.map (fun _ => 0) := rfl
    rw [this]
    exact sum_zero ks
  | o :: s, ks, h, hm => by
    rw [sum_step o s ks h, sum_gr s ks h (fun x hx => hm x (List.mem_cons_of_mem _ hx)), if_pos (hm o (List.mem_cons_self ..))]
    rfl
theorem sum_le {s : List Out} {ks seen : List Int} (hn : seen.Nodup) : (seen.map (fun t => (gr t s).length)).sum ≤ s.length := by
  induction s with
  | nil =>
    have : seen.map (fun t => (gr t []).length) = seen.map (fun _ => 0) := rfl
    rw [this]
    rw [sum_zero]
    exact Nat.le_refl _
  | cons o s ih =>
    rw [sum_step o s seen hn]
    simp only [List.length_cons]
    split <;> omega
set_option maxHeartbeats 4000000 in
theorem blen_any (S P : Nat → Prop) (B : Nat) (s : List Out) (p : Bp) (w : World) (h : BufIn S P w B s p) (hn : s.length ≤ 1000000) :
    Calls Try.prog 18 #[.pointer (some ⟨B, 0, none⟩)] w fun e w' => e = .returned (.int .i64 s.length) ∧ G w w' := by
  obtain ⟨bc0, bc1⟩ := box2b h
  obtain ⟨W1, hr1, hrg, hg1, hz1⟩ := h.map.range
  have HS := Lib.hid (show ∀ seen : List Int, seen.Nodup → (seen.map (fun t => (gr t s).length)).sum ≤ s.length from fun seen hsn => sum_le (ks := []) hsn)
  have HE := Lib.hid (show ∀ seen : List Int, seen.Perm p.ks → (seen.map (fun t => (gr t s).length)).sum = s.length from fun seen hp => by
    rw [perm_sum (hp.map (fun t => (gr t s).length))]
    exact sum_gr s p.ks h.map.nd (fun o ho => (h.keys _).2 ⟨o, ho, rfl⟩))
  have HR := Lib.hid (show ∀ t, ∃ q c, p.m t = .slice q (gr t s).length c from fun t => by
    obtain ⟨q, c, e⟩ := (h.rows t).shape
    exact ⟨q, c, by rw [e, h.len t]⟩)
  have HND := Lib.hid h.map.nd
  have hMl := h.map.lt
  obtain ⟨L, hL⟩ : ∃ L, L = s.length := ⟨_, rfl⟩
  rw [← hL] at HS HE hn ⊢
  clear h hL
  go_enter Try.func18, Try.ntmps18
  go_wp2_with fail
  refine (bmade_any bc1).mono ?_
  rintro e w' ⟨rfl, rfl⟩
  go_wp2_with fail
  go_loopw [2] (fun v wr => ∃ (seen : List Int) (cnt k : Nat), v = .int .i64 k ∧ k ≤ L ∧ Hid (k = (seen.map (fun t => (gr t s).length)).sum ∧ seen.Nodup ∧ Rng wr p.M w.heap.size p.m p.ks seen cnt) ∧ G w wr) (fun _ wr => wr.rangeLeft p.M w.heap.size)
  case atStart => exact ⟨[], _, 0, rfl, by omega, Lib.hid ⟨rfl, List.nodup_nil, hrg⟩, hg1⟩
  case round =>
    obtain ⟨seen, cnt, k, rfl, hk, HX, hg⟩ := hrel
    rcases HX.out.2.2.next 0 with ⟨h0, hall, hrun⟩ | ⟨t, W', cnt', hmem, hns, hrun, -, hrg', hlt, hf, hen⟩
    · have hd := HE.out seen (HX.out.2.2.done HND.out hall)
      rw [← HX.out.1] at hd
      subst hd
      clear HX hrg hr1
      go_wp2_with fail
      go_ret
      exact ⟨rfl, hg⟩
    · obtain ⟨q, c, hq⟩ := HR.out t
      rw [hq] at hrun hen
      have hnd2 : (seen ++ [t]).Nodup := List.nodup_append.2 ⟨HX.out.2.1, by simp, fun a ha b hb e => by simp at hb; subst hb; subst e; exact hns ha⟩
      have hs2 := HS.out _ hnd2
      have hk2 : ((seen ++ [t]).map (fun t => (gr t s).length)).sum = k + (gr t s).length := by rw [List.map_append, List.sum_append, ← HX.out.1]; simp
      have HX2 := Lib.hid (show k + (gr t s).length = ((seen ++ [t]).map (fun t => (gr t s).length)).sum ∧ (seen ++ [t]).Nodup ∧ Rng W' p.M w.heap.size p.m p.ks (seen ++ [t]) cnt' from ⟨hk2.symm, hnd2, hrg'⟩)
      rw [hk2] at hs2
      have hg' : G w W' := ((hg.fr (fun q => w.heap.size ≤ q)).trans hf (fun q _ e => by have e2 : q = w.heap.size := e; omega)).g (fun _ h => h)
      have HLT := Lib.hid (show W'.rangeLeft p.M w.heap.size < wr.rangeLeft p.M w.heap.size by rw [hrg'.left_eq, HX.out.2.2.left_eq]; exact hlt)
      generalize (gr t s).length = n at hrun hen hs2 HX2
      clear HX hq hnd2 hk2 hrg' hf hrg hr1 hmem hns
      go_wp2_with fail
      go_roundw
      case rel => exact ⟨seen ++ [t], cnt', k + n, by go_num, hs2, HX2, hg'⟩
      case measure => exact HLT.out
end Go.Proofs.Ythhmmjpgefinmaa
