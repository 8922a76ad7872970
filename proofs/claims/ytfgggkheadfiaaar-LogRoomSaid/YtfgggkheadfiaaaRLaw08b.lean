/- The statement LogKnown: the walk. -/
import Derived.Test.YtfgggkheadfiaaaRLaw08a
namespace Go.Proofs.YtfgggkheadfiaaaR
open Go Go.RowKit
attribute [local go_sem ↓] Go.wp_at_zero Go.wp_at_succ

theorem seen_new_part (k f n : Nat) (h : f + n ≤ k) : LogM.seenPages (DiskM.new k) f n = List.replicate n DiskM.blank := by
  refine LogM.seenPages_ext (by simp) fun j hj => ?_
  rw [List.getElem?_replicate, if_pos hj]
  simp [DiskM.seen, DiskM.seenIn, DiskM.new, show f + j < k by omega]
set_option maxRecDepth 100000 in
set_option maxHeartbeats 3200000 in
theorem logKnown_walk (w : World) (o : Own) : Calls Try.prog 11 #[] w (Ret Nobody w o fun v _ _ => v = .bool true) := by
  obtain ⟨D, hD0, hDf⟩ := fresh_tag o w.heap.size 0
  have hD : D ≠ 0 := by omega
  obtain ⟨L, hL0, hLf⟩ := fresh_tag o w.heap.size D
  have hL : L ≠ 0 := by omega
  have hLD : L ≠ D := by omega
  clear hD0 hL0
  obtain ⟨s0, hs0⟩ : ∃ s0, (LogM.raw 0 3 0, DiskM.new 3) = s0 := ⟨_, rfl⟩
  have hU0 : LogM.Up s0 := by rw [← hs0]; exact new_up (by omega)
  have h0n : s0.1.n = 3 := by rw [← hs0]; rfl
  have h0e : s0.1.end' = 1 := by rw [← hs0]; rfl
  have h0r : s0.1.records = [] := by rw [← hs0]; rfl
  obtain ⟨s1, c1, hU1, r1, e1, n1, -, -⟩ := LogM.commit_up hU0 [] (by rw [h0n, h0e]; decide)
  rw [h0r] at r1
  rw [h0e, show LogM.many [] = 1 from by decide] at e1
  rw [h0n] at n1
  obtain ⟨s2, c2, hU2, r2, e2, n2, -, -⟩ := LogM.commit_up hU1 [98] (by rw [n1, e1]; decide)
  rw [e1, show LogM.many [98] = 1 from by decide] at e2
  rw [n1] at n2
  rw [r1] at r2
  have c3 := LogM.commit_full hU2.ld hU2.dd [] (by rw [n2, e2]; decide)
  have w0 : s0.2.row.length ≤ 700000 := by rw [hU0.row]; simp
  have w1 : s1.2.row.length ≤ 700000 := by rw [hU1.row]; simp
  have w2 : s2.2.row.length ≤ 700000 := by rw [hU2.row]; simp
  have hnew := new_ok 4 w o D (by omega) (by omega)
  clear hU0 h0n h0e h0r hU1 e1 n1 hU2 e2 n2
  go_enter Try.func11, Try.ntmps11
  go_wp2_with fail
  refine hnew.mono ?_; rintro e wc ⟨v, oc, rfl, hs, pd, -, rfl, hd⟩
  have hst := hs.in0 (L := L) (D := D)
  have hx := open_arg hd rfl 1 4 (.inr (.inr (by simp [DiskM.new]))) (by omega)
  clear hs hnew
  go_wp2_with fail
  refine hx.mono ?_; rintro e wc' ⟨v, oc', rfl, hs, rfl⟩
  have hd := hd.step hs (fun h => h)
  have hst := hst.trans hs.in0
  have hx := open_arg hd rfl 0 1 (.inl (by omega)) (by omega)
  clear hs
  go_wp2_with fail
  refine hx.mono ?_; rintro e wc ⟨v, oc, rfl, hs, rfl⟩
  have hd := hd.step hs (fun h => h)
  have hst := hst.trans hs.in0
  have hx := open_arg hd rfl (-1) 2 (.inr (.inl (by omega))) (by omega)
  clear hs
  go_wp2_with fail
  refine hx.mono ?_; rintro e wc' ⟨v, oc', rfl, hs, rfl⟩
  have hd := hd.step hs (fun h => h)
  have hst := hst.trans hs.in0
  have hx := open_yes hL hD hLD hd (by simp [DiskM.new]) rfl 2 2 (by omega) (by omega) (by simp [DiskM.new])
  rw [show ((2 : Nat) : Int) = 2 from rfl, seen_new_part 4 2 2 (by omega)] at hx
  clear hs
  go_wp2_with fail
  refine hx.mono ?_; rintro e wc ⟨v, oc, rfl, hs, hop⟩
  obtain ⟨p0, -, rfl, -⟩ := hop.2 (by rw [newest_blank]; decide)
  have hst := hst.trans hs.inL
  have hx := made_is (w := wc) (o := oc) hL hD hLD 3 (by omega) (by omega)
  rw [hs0] at hx
  clear hs hop hd hs0
  go_wp2_with fail
  refine hx.mono ?_; rintro e wc' ⟨v, oc', rfl, hs, pd', p, -, -, rfl, hld⟩
  have hst := hst.trans hs.inL
  clear hs hx
  go_wp2_with fail
  have hcn := commit_is hL hD hLD hld w0 [] (.slice none 0 0) (Bytes.nil _ _) (fun a n c h => by cases h; decide) (by decide) c1
  refine hcn.mono ?_; rintro e wc ⟨v, oc, rfl, hs, rfl, hld⟩
  have hst := hst.trans hs
  have hsa := (Step.refl Nobody wc oc).alloc (.cells (bvs [98]).toArray 5 (1, 2)) (0, 0)
  have hba := bytes_marked wc oc [98] (by decide)
  have hca := (commit_is hL hD hLD (hld.step hsa (fun h => h) (fun h => h) (fun h => h)) w1 [98] _ hba (fun a n c h => by cases h; decide) (by decide) c2)
  have hst := hst.trans hsa.in0
  have hbv : bvs [98] = [.int .u8 98] := rfl
  rw [hbv] at hsa hba hca hst
  have hcv : (convert 28 28 (.slice (some ⟨wc.heap.size, 0, none⟩) 1 1)).run Try.prog (wc.alloc (.cells #[.int .u8 98] 5)) = .ok (.slice (some ⟨wc.heap.size, 0, none⟩) 1 1) (wc.alloc (.cells #[.int .u8 98] 5 (1, 2))) := conv_marked wc [.int .u8 98] 1 1
  clear hcn hs hsa hba hld
  go_wp2_with fail
  refine hca.mono ?_; rintro e wc' ⟨v, oc', rfl, hs, rfl, hld⟩
  have hst := hst.trans hs
  have hcn := commit_is hL hD hLD hld w2 [] (.slice none 0 0) (Bytes.nil _ _) (fun a n c h => by cases h; decide) (by decide) c3
  clear hca hcv hs
  go_wp2_with fail
  refine hcn.mono ?_; rintro e wc ⟨v, oc, rfl, hs, rfl, hld⟩
  have hst := hst.trans hs
  have hbt := batches_is hld.1 _ r2
  clear hcn hs
  go_wp2_with fail
  refine hbt.mono ?_; rintro e wc' ⟨v, oc', rfl, hs, vs, hown, -, hrb, -⟩
  have hst := hst.trans hs.in0
  simp only [List.nil_append, List.cons_append] at hown hrb
  obtain ⟨x, hx⟩ : ∃ x, vs[0]? = some x := by
    have := hrb.1; exact ⟨_, List.getElem?_eq_getElem (by rw [this]; decide)⟩
  obtain ⟨y, hy⟩ : ∃ y, vs[1]? = some y := by
    have := hrb.1; exact ⟨_, List.getElem?_eq_getElem (by rw [this]; decide)⟩
  obtain ⟨g, c, rfl, -, -, hgc⟩ := ownsRow_cell hown hx
  obtain ⟨g', c', hv', -, -, hgc'⟩ := ownsRow_cell hown hy
  simp only [Value.slice.injEq, Option.some.injEq, Addr.mk.injEq] at hv'
  obtain ⟨⟨rfl, -, -⟩, -, rfl⟩ := hv'
  have hxb := hrb.2 0 x _ hx rfl
  obtain ⟨xa, xc, rfl⟩ := slc_form hxb
  have hcv := conv_string (hrb.2 1 y _ hy rfl)
  have hwk := wakes8_any wc' oc'
  clear hbt hs hown hrb hld hxb hx hy
  go_wp2_with fail
  refine hwk.mono ?_; rintro e wc ⟨v, oc, rfl, hs, rfl⟩
  have hst := (hst.trans hs.in0).nobody2 hLf hDf
  clear hwk hs
  go_wp2_with fail
  go_ret
  exact ⟨_, oc, rfl, hst, rfl⟩
end Go.Proofs.YtfgggkheadfiaaaR
