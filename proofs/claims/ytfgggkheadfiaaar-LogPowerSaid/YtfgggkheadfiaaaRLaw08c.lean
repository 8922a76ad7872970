/- The statement LogNil: acts of nil, of a dead disk; the walk. -/
import Derived.Test.YtfgggkheadfiaaaRLaw08f
namespace Go.Proofs.YtfgggkheadfiaaaR
open Go Go.RowKit
attribute [local go_sem ↓] Go.wp_at_zero Go.wp_at_succ

set_option maxRecDepth 100000 in
set_option maxHeartbeats 3200000 in
theorem reset_nil (w : World) (o : Own) : Calls Try.prog 43 #[.pointer none] w (Ret Nobody w o fun v _ _ => v = .int .i64 8) := by
  go_enter Try.func43, Try.ntmps43
  go_wp2_with fail
  refine (alive_nil _ _ _ _).mono ?_; rintro e w' ⟨rfl, rfl⟩
  go_wp2_with fail
  go_ret
  exact ⟨_, _, rfl, ((Step.refl Nobody w o).alloc _ (0, 0)).alloc _ (0, 0), rfl⟩
set_option maxRecDepth 100000 in
set_option maxHeartbeats 3200000 in
theorem commit_nil (w : World) (o : Own) (a : Option Addr) (n c : Nat) : Calls Try.prog 40 #[.pointer none, .slice a n c] w (Ret Nobody w o fun v _ _ => v = .int .i64 8) := by
  go_enter Try.func40, Try.ntmps40
  go_wp2_with fail
  all_goals
    refine (alive_nil _ _ _ _).mono ?_; rintro e w' ⟨rfl, rfl⟩
    go_wp2_with fail
    go_ret
    exact ⟨_, _, rfl, ((((Step.refl Nobody w o).alloc _ (0, 0)).alloc _ (0, 0)).alloc _ (0, 0)).alloc _ (0, 0), rfl⟩
section
variable {w : World} {o : Own} {L D p pd : Nat} {s : LogM × DiskM}
set_option maxRecDepth 100000 in
set_option maxHeartbeats 3200000 in
theorem reset_dead (h : LD w o L D p pd s) (hd : (s.1.dead || s.2.dead) = true) : Calls Try.prog 43 #[.pointer (some ⟨p, 0, none⟩)] w (Ret Nobody w o fun v _ _ => v = .int .i64 9) := by
  have hH := hidden h
  have hdH := hidden hd
  clear h hd
  go_enter Try.func43, Try.ntmps43
  go_wp2_with fail
  refine (alive_dead (hH.out.step (((Step.refl Nobody w o).alloc _ (0, 0)).alloc _ (0, 0)) (fun h => h) (fun h => h) (fun h => h)) hdH.out _ _ _).mono ?_; rintro e w' ⟨v, o', rfl, hs, rfl⟩
  go_wp2_with fail
  go_ret
  exact ⟨_, o', rfl, (((Step.refl Nobody w o).alloc _ (0, 0)).alloc _ (0, 0)).trans hs, rfl⟩
set_option maxRecDepth 100000 in
set_option maxHeartbeats 3200000 in
theorem commit_dead (h : LD w o L D p pd s) (hd : (s.1.dead || s.2.dead) = true) (a : Option Addr) (n c : Nat) : Calls Try.prog 40 #[.pointer (some ⟨p, 0, none⟩), .slice a n c] w (Ret Nobody w o fun v _ _ => v = .int .i64 9) := by
  have hH := hidden h
  have hdH := hidden hd
  clear h hd
  go_enter Try.func40, Try.ntmps40
  go_wp2_with fail
  all_goals
    refine (alive_dead (hH.out.step (((((Step.refl Nobody w o).alloc _ (0, 0)).alloc _ (0, 0)).alloc _ (0, 0)).alloc _ (0, 0)) (fun h => h) (fun h => h) (fun h => h)) hdH.out _ _ _).mono ?_; rintro e w' ⟨v, o', rfl, hs, rfl⟩
    go_wp2_with fail
    go_ret
    exact ⟨_, o', rfl, (((((Step.refl Nobody w o).alloc _ (0, 0)).alloc _ (0, 0)).alloc _ (0, 0)).alloc _ (0, 0)).trans hs, rfl⟩
end
/-- Whose blocks are that a call has made. -/
def extT (W : World) (o : Own) (t : Nat × Nat) : Own := fun k => if k < W.heap.size then o k else t
theorem Step.retag {T : Nat → Prop} {w w' : World} {o o' : Own} (hs : Step T w o w' o') (t : Nat × Nat) : Step T w o w' (extT w o t) := ⟨hs.os, hs.tape, hs.output, hs.size, fun _ hk => if_pos hk, hs.block⟩
theorem extT_new {W : World} {o : Own} {t : Nat × Nat} {k : Nat} (h : W.heap.size ≤ k) : extT W o t k = t := if_neg (by omega)
theorem own_block {w : World} {b e n : Nat} {v : Value} {xs : List Value} (h : w.ownsRow b e 1 v n xs) (hn : 0 < n) : ∃ g cap cur, v = .slice (some ⟨g, 0, none⟩) n cap ∧ b ≤ g ∧ w.heap[g]? = some (.cells (cur : List Value).toArray e (0, 0)) ∧ cur.take n = xs := by
  rcases h.2 with ⟨_, h0⟩ | ⟨g, cap, cur, rfl, h1, h2, h3, h4, h5, h6⟩
  · omega
  · exact ⟨g, cap, cur.toList, rfl, h1, by simpa using h2, by rw [Nat.mul_one] at h6; exact h6⟩
theorem take_get' {α : Type} {l xs : List α} {n i : Nat} (h : l.take n = xs) (hi : i < n) : l[i]? = xs[i]? := by rw [← h, List.getElem?_take, if_pos hi]

set_option maxRecDepth 100000 in
set_option maxHeartbeats 6400000 in
theorem logNil_walk (w : World) (o : Own) (ba : Option Addr) (bn bc : Nat) : Calls Try.prog 12 #[.slice ba bn bc] w (Ret Nobody w o fun v _ _ => v = .bool true) := by
  obtain ⟨M, -, hM⟩ := tag_bound o 0 w.heap.size
  obtain ⟨D, hD⟩ : ∃ D, D = M + 1 := ⟨_, rfl⟩
  obtain ⟨L, hL⟩ : ∃ L, L = M + 2 := ⟨_, rfl⟩
  obtain ⟨E, hE⟩ : ∃ E, E = M + 3 := ⟨_, rfl⟩
  have hD0 : D ≠ 0 := by omega
  have hL0 : L ≠ 0 := by omega
  have hE0 : E ≠ 0 := by omega
  have hLD : L ≠ D := by omega
  have mL : M < L := by omega
  have mD : M < D := by omega
  have mE : M < E := by omega
  have nEL : ¬ Only E L := fun h => by change _ = _ at h; omega
  have nED : ¬ Only E D := fun h => by change _ = _ at h; omega
  have nE0 : ¬ Only E 0 := fun h => by change _ = _ at h; omega
  have nDL : ¬ Only D L := fun h => by change _ = _ at h; omega
  have nD0 : ¬ Only D 0 := fun h => by change _ = _ at h; omega
  have nI0 : ¬ In L D 0 := fun h => by rcases h with h | h <;> omega
  have nI00 : ¬ In L D (0, 0).1 := nI0
  clear hD hL hE
  have nn : ∀ k, ¬ Nobody k := fun _ h => h
  -- the states
  obtain ⟨s0, hs0⟩ : ∃ s0, (LogM.raw 0 4 0, DiskM.new 4) = s0 := ⟨_, rfl⟩
  have hU0 : LogM.Up s0 := by rw [← hs0]; exact new_up (by omega)
  have h0n : s0.1.n = 4 := by rw [← hs0]; rfl
  have h0e : s0.1.end' = 1 := by rw [← hs0]; rfl
  have h0r : s0.1.records = [] := by rw [← hs0]; rfl
  obtain ⟨s1, c1, hU1, r1, -, -, -, -⟩ := LogM.commit_up hU0 [97, 98, 99] (by rw [h0n, h0e]; decide)
  rw [h0r] at r1
  have w0 : s0.2.row.length ≤ 700000 := by rw [hU0.row]; simp
  have hmade := fun (W : World) (O : Own) => made_is (w := W) (o := O) hL0 hD0 hLD 4 (by omega) (by omega)
  rw [hs0] at hmade
  clear hs0 hU0 h0n h0e h0r hU1
  go_enter Try.func12, Try.ntmps12
  go_wp2_with fail
  refine (open_nil 0 2 _).mono ?_; rintro e w' ⟨rfl, rfl⟩
  go_wp2_with fail
  refine (batches_nil _).mono ?_; rintro e w' ⟨rfl, rfl⟩
  go_wp2_with fail
  refine (room_nil _).mono ?_; rintro e w' ⟨rfl, rfl⟩
  go_wp2_with fail
  refine (commit_nil w o _ _ _).mono ?_; rintro e wc ⟨v, oc, rfl, hs, rfl⟩
  have hst := hs.above0 (M := M)
  clear hs
  go_wp2_with fail
  refine (reset_nil wc oc).mono ?_; rintro e wd ⟨v, od, rfl, hs, rfl⟩
  have hst := hst.trans hs.above0
  clear hs
  go_wp2_with fail
  refine (hmade wd od).mono ?_; rintro e wc ⟨v, oc, rfl, hs, pd, p, -, -, rfl, hld⟩
  have hsz := hst.size
  have hsz2 := hs.size
  have hst := hst.trans (hs.above1 mL)
  clear hs hmade
  -- t
  have hsa := (Step.refl Nobody wc oc).alloc (.cells (bvs [97, 98, 99]).toArray 5 (3, 4)) (0, 0)
  have hba := bytes_marked wc oc [97, 98, 99] (by decide)
  have hg0 : (wc.alloc (.cells (bvs [97, 98, 99]).toArray 5 (3, 4))).heap[wc.heap.size]? = some (.cells (bvs [97, 98, 99]).toArray 5 (3, 4)) := heap_alloc_new wc _
  have hgo : tagAt oc wc.heap.size (0, 0) wc.heap.size = (0, 0) := tagAt_same _ _ _
  have hld := hld.step hsa (nn _) (nn _) (nn _)
  have hst := hst.trans hsa.above0
  have hgw : w.heap.size ≤ wc.heap.size := by omega
  have hca := commit_is hL0 hD0 hLD hld w0 [97, 98, 99] _ hba (fun a n c h => by cases h; decide) (by decide) c1
  have hbv : bvs [97, 98, 99] = [.int .u8 97, .int .u8 98, .int .u8 99] := rfl
  rw [hbv] at hsa hba hca hst hld hg0
  have hcv : (convert 28 28 (.slice (some ⟨wc.heap.size, 0, none⟩) 3 3)).run Try.prog (wc.alloc (.cells #[.int .u8 97, .int .u8 98, .int .u8 99] 5)) = .ok (.slice (some ⟨wc.heap.size, 0, none⟩) 3 3) (wc.alloc (.cells #[.int .u8 97, .int .u8 98, .int .u8 99] 5 (3, 4))) := conv_marked wc [.int .u8 97, .int .u8 98, .int .u8 99] 3 3
  clear hba hsa hld
  go_wp2_with fail
  refine hca.mono ?_; rintro e we ⟨v, oe, rfl, hs, rfl, hld⟩
  have hgl := lt_of_block hg0
  have hg1 : we.heap[wc.heap.size]? = some (.cells #[.int .u8 97, .int .u8 98, .int .u8 99] 5 (3, 4)) := by rw [hs.block _ hgl (by rw [hgo]; exact nI0)]; exact hg0
  have hgo1 : oe wc.heap.size = (0, 0) := by rw [hs.own _ hgl]; exact hgo
  have hst := hst.trans (hs.above2 mL mD)
  clear hca hs hcv hg0 hgo hgl
  have cg : we.cell? ⟨wc.heap.size, 0, none⟩ = some (.int .u8 97) := by simp [World.cell?, hg1]
  have fg : we.frozen? ⟨wc.heap.size, 0, none⟩ = false := by simp [World.frozen?, hg1]
  have hlA := hld.1.setOther hL0 (g := wc.heap.size) (i := 0) (.int .u8 122) hgo1
  have hdA := hld.2.step ((Step.refl (Only 0) we oe).setCell (a := ⟨wc.heap.size, 0, none⟩) (.int .u8 122) (.inl (by rw [hgo1]; rfl))) (fun h => hD0 h)
  have hst := hst.setCell (a := ⟨wc.heap.size, 0, none⟩) (.int .u8 122) (.inr hgw)
  have hH := hidden (And.intro hlA (And.intro hdA hst))
  clear hlA hdA hst hld hg1 hgo1
  go_wp2_with fail
  obtain ⟨hlA, hdA, hst⟩ := hH.out
  clear hH cg fg
  have hszA := hst.size
  refine (batches_is hlA _ r1).mono ?_; rintro e wf ⟨v, oq, rfl, hs0, vs, hown, hrn, hrb, -⟩
  have hs := hs0.retag (E, 0)
  simp only [List.nil_append] at hown hrn hrb
  obtain ⟨x, hx⟩ : ∃ x, vs[0]? = some x := by
    have := hrb.1; exact ⟨_, List.getElem?_eq_getElem (by rw [this]; decide)⟩
  obtain ⟨g, c, rfl, hgb, hgl, hgc⟩ := ownsRow_cell hown hx
  have hxo := hrn.2 0 x _ hx rfl
  obtain ⟨gx, cx, cur, rfl, hgx, hgxh, hcur⟩ := own_block hxo (by decide)
  have hcv : (convert 28 9 (.slice (some ⟨gx, 0, none⟩) 3 cx)).run Try.prog wf = .ok (.string ⟨#[97, 98, 99]⟩) wf := conv_string (hrb.2 0 _ _ hx rfl)
  have hlB := hlA.step hs (nn _) (nn _)
  have hdB := hdA.step hs (nn _)
  have hst := hst.trans hs.above0
  have hgo : extT ((we.setCell ⟨wc.heap.size, 0, none⟩ (.int .u8 122))) oe (E, 0) gx = (E, 0) := extT_new hgx
  have hst := hst.setCell (a := ⟨gx, 1, none⟩) (.int .u8 122) (.inr (by show w.heap.size ≤ gx; omega))
  have hse := (Step.refl (Only E) wf (extT ((we.setCell ⟨wc.heap.size, 0, none⟩ (.int .u8 122))) oe (E, 0))).setCell (a := ⟨gx, 1, none⟩) (.int .u8 122) (.inl (by rw [hgo]; rfl))
  have hlC := hlB.step hse nEL nE0
  have hdC := hdB.step hse nED
  have cg : wf.cell? ⟨gx, 1, none⟩ = some (.int .u8 98) := by rw [cell_of_block hgxh 1, take_get' hcur (by decide)]; rfl
  have fg := free_of_block hgxh 1
  have hH := hidden (And.intro hlC (And.intro hdC hst))
  have hgcH : wf.cell? ⟨g, 0, none⟩ = some (.slice (some ⟨gx, 0, none⟩) 3 cx) := hgc
  clear hlA hdA hs0 hs hown hrn hrb hx hxo hgxh hcur hlB hdB hst hse hlC hdC hgc hgo hszA hgb hgl
  generalize extT ((we.setCell ⟨wc.heap.size, 0, none⟩ (.int .u8 122))) oe (E, 0) = of' at *
  go_wp2_with fail
  obtain ⟨hlA, hdA, hst⟩ := hH.out
  clear hH cg fg hcv hgcH
  refine (batches_is hlA _ r1).mono ?_; rintro e wg ⟨v, og, rfl, hs, vs, hown, hrn, hrb, hz⟩
  simp only [List.nil_append] at hown hrn hrb
  obtain ⟨x, hx⟩ : ∃ x, vs[0]? = some x := by
    have := hrb.1; exact ⟨_, List.getElem?_eq_getElem (by rw [this]; decide)⟩
  obtain ⟨ga, ca, rfl, hgab, hgal, hgac⟩ := ownsRow_cell hown hx
  have hxb := hrb.2 0 x _ hx rfl
  have hzg := hz ga hgab
  have hlA := hlA.step hs (nn _) (nn _)
  have hdA := hdA.step hs (nn _)
  have hst := hst.trans hs.above0
  clear hs hown hrn hrb hz hx hgab
  go_wp2_with fail
  refine (kill_any hdA).mono ?_; rintro e wh ⟨v, oh, rfl, hs, rfl, hdB⟩
  have hlB := hlA.step hs nDL nD0
  have hxb := hxb.step hs nD0
  have hst := hst.trans (hs.above1 mD)
  have hgc : wh.cell? ⟨ga, 0, none⟩ = some x := by
    have e := hs.block ga hgal (by rw [hzg]; exact nD0)
    rw [World.cell?_of_block (a := ⟨ga, 0, none⟩) e]; exact hgac
  have hdd : (s1.1.dead || (s1.2.kill).dead) = true := by show (s1.1.dead || true) = true; simp
  obtain ⟨xa, xc, rfl⟩ := slc_form hxb
  have hcv := conv_string hxb
  have hcv' : (convert 28 9 (.slice xa 3 xc)).run Try.prog wh = .ok (.string ⟨#[97, 98, 99]⟩) wh := hcv
  have hop := open_dead hdB rfl 0 4
  clear hs hxb hgac hdA hlA hzg hgal hcv
  go_wp2_with fail
  refine hop.mono ?_; rintro e w' ⟨rfl, rfl⟩
  have hcd := commit_dead (⟨hlB, hdB⟩ : LD wh oh L D p pd (s1.1, s1.2.kill)) hdd ba bn bc
  clear hop
  go_wp2_with fail
  refine hcd.mono ?_; rintro e wi ⟨v, oi, rfl, hs, rfl⟩
  have hlC := hlB.step hs (nn _) (nn _)
  have hdC := hdB.step hs (nn _)
  have hst := hst.trans hs.above0
  have hrd := reset_dead (⟨hlC, hdC⟩ : LD wi oi L D p pd (s1.1, s1.2.kill)) hdd
  clear hcd hs hcv' hgc hlB hdB
  go_wp2_with fail
  refine hrd.mono ?_; rintro e wj ⟨v, oj, rfl, hs, rfl⟩
  have hst := hst.trans hs.above0
  have hwk := wakes8_any wj oj
  clear hrd hs
  go_wp2_with fail
  refine hwk.mono ?_; rintro e wk ⟨v, ok, rfl, hs, rfl⟩
  have hst := (hst.trans hs.above0).noneAbove hM
  clear hwk hs
  go_wp2_with fail
  go_ret
  exact ⟨_, ok, rfl, hst, rfl⟩
end Go.Proofs.YtfgggkheadfiaaaR
