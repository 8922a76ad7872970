/- Contracts of the laws of layer 9: next, Fits. -/
import Derived.Test.YtfgggkheadfiaaaRSq2
import Derived.Test.YtfgggkheadfiaaaRSq11
import Derived.Test.YtfgggkheadfiaaaRSq12
namespace Go.Proofs.YtfgggkheadfiaaaR
open Go Go.RowKit
attribute [local go_sem ↓] Go.wp_at_zero Go.wp_at_succ
section
variable {w : World} {o : Own} {p c : BitVec 64} {lv lv2 : Value} {ls : List LineM}
set_option maxRecDepth 100000 in
set_option maxHeartbeats 6400000 in
theorem dnext_any (hl : Lines w o 0 lv ls) (hn : ls.length ≤ 256) (a : ActM) (hk5 : a.k < 256) (hl2 : Lines w o 0 lv2 a.ls) (hn2 : a.ls.length ≤ 1000) :
    Calls Try.prog 55 #[keptV p c lv, actV a lv2] w (Ret Nobody w o fun v w' o' => KRet (KeptM.next a ⟨p, c, ls⟩) v w' o') := by
  obtain ⟨la, lc, rfl⟩ := hl.form
  obtain ⟨N, hN⟩ : ∃ N, ls.length = N := ⟨_, rfl⟩
  obtain ⟨la2, lc2, rfl⟩ := hl2.form
  obtain ⟨N2, hN2⟩ : ∃ N2, a.ls.length = N2 := ⟨_, rfl⟩
  obtain ⟨q, hq⟩ : ∃ q, KeptM.next a ⟨p, c, ls⟩ = q := ⟨_, rfl⟩
  rw [hq]
  unfold KeptM.next at hq
  have s1 := (Step.refl Nobody w o).alloc (.cells #[.int .u64 (p.toNat : Int), .int .u64 (c.toNat : Int), .slice la N lc] 95) (0, 0)
  have b1 : (w.alloc (.cells #[.int .u64 (p.toNat : Int), .int .u64 (c.toNat : Int), .slice la N lc] 95)).heap[w.heap.size]? = some (.cells [.int .u64 (p.toNat : Int), .int .u64 (c.toNat : Int), .slice la N lc].toArray 95 (0, 0)) := heap_alloc_new w _
  have z1 : (w.alloc (.cells #[.int .u64 (p.toNat : Int), .int .u64 (c.toNat : Int), .slice la N lc] 95)).heap.size = w.heap.size + 1 := by simp
  obtain ⟨W1, hW1⟩ : ∃ W1, w.alloc (.cells #[.int .u64 (p.toNat : Int), .int .u64 (c.toNat : Int), .slice la N lc] 95) = W1 := ⟨_, rfl⟩
  rw [hW1] at s1 b1 z1
  generalize tagAt o w.heap.size (0, 0) = o1 at s1
  have s2 := s1.alloc (.cells #[.int .u8 (a.k : Int), .int .u64 (a.e.toNat : Int), .slice la2 N2 lc2] 99) (0, 0)
  have b2 : (W1.alloc (.cells #[.int .u8 (a.k : Int), .int .u64 (a.e.toNat : Int), .slice la2 N2 lc2] 99)).heap[W1.heap.size]? = some (.cells [.int .u8 (a.k : Int), .int .u64 (a.e.toNat : Int), .slice la2 N2 lc2].toArray 99 (0, 0)) := heap_alloc_new W1 _
  have b12 := (Below.heap_alloc W1 (.cells #[.int .u8 (a.k : Int), .int .u64 (a.e.toNat : Int), .slice la2 N2 lc2] 99) w.heap.size (by omega)).trans b1
  have z2 : (W1.alloc (.cells #[.int .u8 (a.k : Int), .int .u64 (a.e.toNat : Int), .slice la2 N2 lc2] 99)).heap.size = w.heap.size + 2 := by simp [z1]
  obtain ⟨W2, hW2⟩ : ∃ W2, W1.alloc (.cells #[.int .u8 (a.k : Int), .int .u64 (a.e.toNat : Int), .slice la2 N2 lc2] 99) = W2 := ⟨_, rfl⟩
  rw [hW2] at s2 b2 b12 z2
  generalize tagAt o1 W1.heap.size (0, 0) = o2 at s2
  rw [z1] at b2
  have s3 := s2.alloc (.cells #[.int .u64 0, .int .u64 0, .slice none 0 0] 95) (1, 0)
  have b3 : (W2.alloc (.cells #[.int .u64 0, .int .u64 0, .slice none 0 0] 95)).heap[W2.heap.size]? = some (.cells [.int .u64 0, .int .u64 0, .slice none 0 0].toArray 95 (0, 0)) := heap_alloc_new W2 _
  have b13 := (Below.heap_alloc W2 (.cells #[.int .u64 0, .int .u64 0, .slice none 0 0] 95) w.heap.size (by omega)).trans b12
  have b23 := (Below.heap_alloc W2 (.cells #[.int .u64 0, .int .u64 0, .slice none 0 0] 95) (w.heap.size + 1) (by omega)).trans b2
  have t3 : tagAt o2 W2.heap.size (1, 0) W2.heap.size = (1, 0) := tagAt_same _ _ _
  have hal := hidden (run_alloc_zero (P := Try.prog) W2 95 _ zc95)
  obtain ⟨W3, hW3⟩ : ∃ W3, W2.alloc (.cells #[.int .u64 0, .int .u64 0, .slice none 0 0] 95) = W3 := ⟨_, rfl⟩
  rw [hW3] at s3 b3 b13 b23 hal
  generalize tagAt o2 W2.heap.size (1, 0) = o3 at s3 t3
  rw [z2] at b3 t3 hal
  rw [← hW2, ← hW1] at hal
  have hld := hidden (load95 (range_whole b13))
  have c0 := cell_of_block b23 0
  have c1 := cell_of_block b23 1
  have c2 := cell_of_block b23 2
  simp only [List.getElem?_cons_zero, List.getElem?_cons_succ] at c0 c1 c2
  have hl3 := hl.step s3 (fun h => h)
  have hl23 := hl2.step s3 (fun h => h)
  have hpr := hidden (dpromise_any (p := p) (c := c) hl3 a.e)
  have had := hidden (dadopt_any (p := p) (c := c) hl3 hl23 (by omega) a.e)
  have hap := hidden (dappend_any (p := p) (c := c) hl3 hl23 hn hn2)
  have hE := hidden (hl.step s3 (fun h => h))
  rw [hN] at hpr had hap hE ⊢
  rw [hN2] at had hap ⊢
  unfold keptV actV
  unfold keptV at hpr had hap
  have hH := hidden (And.intro s3 (And.intro b3 t3))
  clear s1 b1 z1 hW1 s2 b2 b12 z2 hW2 s3 b3 b13 b23 t3 hW3 hl3 hl23 hl hl2 hn hN hN2 hn2
  obtain ⟨kk, hkk⟩ : ∃ kk, a.k = kk := ⟨_, rfl⟩
  rw [hkk] at hq c0 hk5 hal ⊢
  clear hkk
  by_cases h0 : kk % 5 = 0
  · have hkI : (kk : Int) % 5 = 0 := by omega
    rw [if_pos h0] at hq
    rw [hq] at hpr
    clear h0 hq had hap
    go_enter Try.func55, Try.ntmps55
    go_wp2_with (first
      | ((with_reducible apply lit_load); exact hld.out; simp only [Act.put, List.setIfInBounds_toArray, List.set_cons_zero, List.set_cons_succ])
      | ((with_reducible apply lit_alloc); exact hal.out; simp only [Act.put, List.setIfInBounds_toArray, List.set_cons_zero, List.set_cons_succ]))
    refine hpr.out.mono ?_; rintro e1 w4 ⟨v4, o4, rfl, hs4, lv4, rfl, hl4⟩
    obtain ⟨la4, lc4, rfl⟩ := hl4.form
    have bF := (hs4.block _ (lt_of_block hH.out.2.1) (fun h => h)).trans hH.out.2.1
    have tF := (hs4.own _ (lt_of_block hH.out.2.1)).trans hH.out.2.2
    obtain ⟨hso, hsb⟩ := run_store_agg (P := Try.prog) (ty := 95) (vs := [.int .u64 (q.1.promised.toNat : Int), .int .u64 (q.1.current.toNat : Int), .slice la4 q.1.lines.length lc4]) bF rfl (by kernel_rfl) rfl
    have hsoH := hidden hso
    have hsbH := hidden hsb
    have sF := (Step.refl (Only 1) w4 o4).setCells (w.heap.size + 2) 0 [.int .u64 (q.1.promised.toNat : Int), .int .u64 (q.1.current.toNat : Int), .slice la4 q.1.lines.length lc4] (.inl (by show (o4 (w.heap.size + 2)).1 = 1; rw [tF]))
    have hF := hidden (And.intro ((hH.out.1.trans hs4).setCells (w.heap.size + 2) 0 [.int .u64 (q.1.promised.toNat : Int), .int .u64 (q.1.current.toNat : Int), .slice la4 q.1.lines.length lc4] (.inr (by omega))) (hl4.step sF (fun h => by change 0 = 1 at h; omega)))
    unfold keptV
    clear hso hsb sF bF tF hl4 hs4
    go_wp2_with (first
      | ((with_reducible apply lit_store); exact hsoH.out; simp only [Act.put]))
    refine bodyPost_ret (results_row_tmp rfl _ _ (w.heap.size + 2) 95 _ (0, 0) _ rfl hsbH.out Try.underlying95 rfl size95) rfl ?_
    exact ⟨_, o4, rfl, hF.out.1, _, rfl, hF.out.2⟩
  · rw [if_neg h0] at hq
    by_cases h1 : kk % 5 = 1
    · have hkI : (kk : Int) % 5 = 1 := by omega
      rw [if_pos h1] at hq
      rw [hq] at had
      clear h0 h1 hq hpr hap
      go_enter Try.func55, Try.ntmps55
      go_wp2_with (first
        | ((with_reducible apply lit_load); exact hld.out; simp only [Act.put, List.setIfInBounds_toArray, List.set_cons_zero, List.set_cons_succ])
        | ((with_reducible apply lit_alloc); exact hal.out; simp only [Act.put, List.setIfInBounds_toArray, List.set_cons_zero, List.set_cons_succ]))
      refine had.out.mono ?_; rintro e1 w4 ⟨v4, o4, rfl, hs4, lv4, rfl, hl4⟩
      obtain ⟨la4, lc4, rfl⟩ := hl4.form
      have bF := (hs4.block _ (lt_of_block hH.out.2.1) (fun h => h)).trans hH.out.2.1
      have tF := (hs4.own _ (lt_of_block hH.out.2.1)).trans hH.out.2.2
      obtain ⟨hso, hsb⟩ := run_store_agg (P := Try.prog) (ty := 95) (vs := [.int .u64 (q.1.promised.toNat : Int), .int .u64 (q.1.current.toNat : Int), .slice la4 q.1.lines.length lc4]) bF rfl (by kernel_rfl) rfl
      have hsoH := hidden hso
      have hsbH := hidden hsb
      have sF := (Step.refl (Only 1) w4 o4).setCells (w.heap.size + 2) 0 [.int .u64 (q.1.promised.toNat : Int), .int .u64 (q.1.current.toNat : Int), .slice la4 q.1.lines.length lc4] (.inl (by show (o4 (w.heap.size + 2)).1 = 1; rw [tF]))
      have hF := hidden (And.intro ((hH.out.1.trans hs4).setCells (w.heap.size + 2) 0 [.int .u64 (q.1.promised.toNat : Int), .int .u64 (q.1.current.toNat : Int), .slice la4 q.1.lines.length lc4] (.inr (by omega))) (hl4.step sF (fun h => by change 0 = 1 at h; omega)))
      unfold keptV
      clear hso hsb sF bF tF hl4 hs4
      go_wp2_with (first
        | ((with_reducible apply lit_store); exact hsoH.out; simp only [Act.put]))
      refine bodyPost_ret (results_row_tmp rfl _ _ (w.heap.size + 2) 95 _ (0, 0) _ rfl hsbH.out Try.underlying95 rfl size95) rfl ?_
      exact ⟨_, o4, rfl, hF.out.1, _, rfl, hF.out.2⟩
    · rw [if_neg h1] at hq
      by_cases h4 : kk % 5 = 4
      · have hkI : (kk : Int) % 5 = 4 := by omega
        rw [if_pos h4] at hq
        subst hq
        clear h0 h1 h4 hpr hap had
        obtain ⟨hso, hsb⟩ := run_store_agg (P := Try.prog) (ty := 95) (vs := [.int .u64 (p.toNat : Int), .int .u64 (c.toNat : Int), .slice la N lc]) hH.out.2.1 rfl (by kernel_rfl) rfl
        have hsoH := hidden hso
        have hsbH := hidden hsb
        have sF := (Step.refl (Only 1) W3 o3).setCells (w.heap.size + 2) 0 [.int .u64 (p.toNat : Int), .int .u64 (c.toNat : Int), .slice la N lc] (.inl (by show (o3 (w.heap.size + 2)).1 = 1; rw [hH.out.2.2]))
        have hF := hidden (And.intro (hH.out.1.setCells (w.heap.size + 2) 0 [.int .u64 (p.toNat : Int), .int .u64 (c.toNat : Int), .slice la N lc] (.inr (by omega))) (hE.out.step sF (fun h => by change 0 = 1 at h; omega)))
        clear hso hsb sF
        go_enter Try.func55, Try.ntmps55
        go_wp2_with (first
          | ((with_reducible apply lit_load); exact hld.out; simp only [Act.put, List.setIfInBounds_toArray, List.set_cons_zero, List.set_cons_succ])
          | ((with_reducible apply lit_alloc); exact hal.out; simp only [Act.put, List.setIfInBounds_toArray, List.set_cons_zero, List.set_cons_succ])
          | ((with_reducible apply lit_store); exact hsoH.out; simp only [Act.put]))
        refine bodyPost_ret (results_row_tmp rfl _ _ (w.heap.size + 2) 95 _ (0, 0) _ rfl hsbH.out Try.underlying95 rfl size95) rfl ?_
        exact ⟨_, o3, rfl, hF.out.1, _, rfl, hF.out.2⟩
      · rw [if_neg h4] at hq
        rw [hq] at hap
        have h23 : kk % 5 = 2 ∨ kk % 5 = 3 := by omega
        clear h0 h1 h4 hq hpr had
        rcases h23 with h2 | h2
        all_goals
          have hkI : (kk : Int) % 5 = ((kk % 5 : Nat) : Int) := by omega
          rw [h2] at hkI
          clear h2
          go_enter Try.func55, Try.ntmps55
          go_wp2_with (first
            | ((with_reducible apply lit_load); exact hld.out; simp only [Act.put, List.setIfInBounds_toArray, List.set_cons_zero, List.set_cons_succ])
            | ((with_reducible apply lit_alloc); exact hal.out; simp only [Act.put, List.setIfInBounds_toArray, List.set_cons_zero, List.set_cons_succ]))
          refine hap.out.mono ?_; rintro e1 w4 ⟨v4, o4, rfl, hs4, lv4, rfl, hl4⟩
          obtain ⟨la4, lc4, rfl⟩ := hl4.form
          have bF := (hs4.block _ (lt_of_block hH.out.2.1) (fun h => h)).trans hH.out.2.1
          have tF := (hs4.own _ (lt_of_block hH.out.2.1)).trans hH.out.2.2
          obtain ⟨hso, hsb⟩ := run_store_agg (P := Try.prog) (ty := 95) (vs := [.int .u64 (q.1.promised.toNat : Int), .int .u64 (q.1.current.toNat : Int), .slice la4 q.1.lines.length lc4]) bF rfl (by kernel_rfl) rfl
          have hsoH := hidden hso
          have hsbH := hidden hsb
          have sF := (Step.refl (Only 1) w4 o4).setCells (w.heap.size + 2) 0 [.int .u64 (q.1.promised.toNat : Int), .int .u64 (q.1.current.toNat : Int), .slice la4 q.1.lines.length lc4] (.inl (by show (o4 (w.heap.size + 2)).1 = 1; rw [tF]))
          have hF := hidden (And.intro ((hH.out.1.trans hs4).setCells (w.heap.size + 2) 0 [.int .u64 (q.1.promised.toNat : Int), .int .u64 (q.1.current.toNat : Int), .slice la4 q.1.lines.length lc4] (.inr (by omega))) (hl4.step sF (fun h => by change 0 = 1 at h; omega)))
          unfold keptV
          clear hso hsb sF bF tF hl4 hs4
          go_wp2_with (first
            | ((with_reducible apply lit_store); exact hsoH.out; simp only [Act.put]))
          refine bodyPost_ret (results_row_tmp rfl _ _ (w.heap.size + 2) 95 _ (0, 0) _ rfl hsbH.out Try.underlying95 rfl size95) rfl ?_
          exact ⟨_, o4, rfl, hF.out.1, _, rfl, hF.out.2⟩
theorem fits_take {ls : List LineM} {k : Nat} {x : LineM} (hx : ls[k]? = some x) : 16 * (k + 1) + bytesL (ls.take (k + 1)) = 16 * k + bytesL (ls.take k) + 16 + x.b.length := by
  rw [List.take_add_one, hx, bytesL_append]
  simp [bytesL]; omega
set_option maxRecDepth 100000 in
set_option maxHeartbeats 6400000 in
theorem dfits_any (hl : Lines w o 0 lv ls) (hk : KOk ⟨p, c, ls⟩) (n : Nat) (h8 : 8 ≤ n) (hn400 : n ≤ 400) {r : Bool} (hr : KeptM.fits ⟨p, c, ls⟩ n = r) :
    Calls Try.prog 57 #[keptV p c lv, .int .i64 (n : Int)] w (Ret Nobody w o fun v _ _ => v = .bool r) := by
  have hn256 := hk.n
  have hb4 := hk.b
  simp only at hn256 hb4
  obtain ⟨la, lc, rfl⟩ := hl.form
  obtain ⟨N, hN⟩ : ∃ N, ls.length = N := ⟨_, rfl⟩
  rw [hN] at hl hn256 ⊢
  unfold keptV
  have hb4H := hidden hb4
  have hNH := hidden hN
  have s1 := (Step.refl Nobody w o).alloc (.cells #[.int .u64 (p.toNat : Int), .int .u64 (c.toNat : Int), .slice la N lc] 95) (0, 0)
  have b1 : (w.alloc (.cells #[.int .u64 (p.toNat : Int), .int .u64 (c.toNat : Int), .slice la N lc] 95)).heap[w.heap.size]? = some (.cells [.int .u64 (p.toNat : Int), .int .u64 (c.toNat : Int), .slice la N lc].toArray 95 (0, 0)) := heap_alloc_new w _
  have c2 := cell_of_block b1 2
  simp only [List.getElem?_cons_zero, List.getElem?_cons_succ] at c2
  have hlH := hidden (hl.step s1 (fun h => h))
  have hst := hidden s1
  obtain ⟨W1, hW1⟩ : ∃ W1, w.alloc (.cells #[.int .u64 (p.toNat : Int), .int .u64 (c.toNat : Int), .slice la N lc] 95) = W1 := ⟨_, rfl⟩
  rw [hW1] at c2 hlH hst
  have hW1H := hidden hW1
  have hnI : (8 : Int) ≤ (n : Int) ∧ (n : Int) ≤ 400 := by omega
  unfold KeptM.fits fitsN at hr
  simp only at hr
  rw [hN] at hr
  have hrH := hidden hr
  clear s1 b1 hW1 hl hb4 hN hk hr
  go_enter Try.func57, Try.ntmps57
  go_wp2_with fail
  rw [hW1H.out]
  go_loopw [5, 6] (fun nv i wr => ∃ (k m : Nat), k ≤ N ∧ i = .int .i64 k ∧ nv = .int .i64 (m : Int) ∧ m = 64 + (16 * k + bytesL (ls.take k)) ∧ m ≤ 64 + 4112 * k ∧ wr = W1) (fun _ i _ => N - (intOf i).toNat)
  case atStart => exact ⟨0, 64, by omega, rfl, rfl, by simp [bytesL], by omega, (by first | trivial | rfl)⟩
  case round =>
    obtain ⟨k, m, hk, rfl, rfl, hm, hmb, hwr⟩ := hrel
    subst hwr
    have hmH := hidden hm
    clear hm
    have hmI : (0 : Int) ≤ (m : Int) ∧ (m : Int) ≤ 64 + 4112 * 256 := by omega
    by_cases hlt : k < N
    · have hltI : (k : Int) < (N : Int) := by omega
      obtain ⟨x, hx⟩ : ∃ x, ls[k]? = some x := ⟨_, List.getElem?_eq_getElem (by rw [hNH.out]; exact hlt)⟩
      obtain ⟨b, off, bv, rfl, hrg, hby, -⟩ := hlH.out.at hx
      obtain ⟨ba, bc, rfl⟩ := slc_form hby
      have cB : wr.cell? ⟨b, off + k * 2 + 1, none⟩ = some (.slice ba x.b.length bc) := hrg 1 _ rfl
      have hxl := hb4H.out x (List.mem_of_getElem? hx)
      have hft := hidden (fits_take hx)
      obtain ⟨L, hL⟩ : ∃ L, x.b.length = L := ⟨_, rfl⟩
      rw [hL] at cB hxl hft
      have hLI : (0 : Int) ≤ (L : Int) ∧ (L : Int) ≤ 4096 := by omega
      clear hrg hby hx hL
      go_wp2_with fail
      go_roundw
      case rel => exact ⟨k + 1, m + 16 + L, by omega, by go_num, by go_num, by have := hmH.out; have := hft.out; omega, by omega, (by first | trivial | rfl)⟩
      case measure => simp [intOf]; omega
    · obtain rfl : k = N := by omega
      have hfin := hidden (show decide ((m : Int) ≤ 480 * ((n : Int) / 2 - 1)) = r by
        rw [← hrH.out]
        apply decide_eq_decide.2
        have := hmH.out
        rw [List.take_of_length_le (by rw [hNH.out]; omega)] at this
        omega)
      have hq : (3 : Int) ≤ (n : Int) / 2 - 1 ∧ (n : Int) / 2 - 1 ≤ 199 := by omega
      obtain ⟨g, hg⟩ : ∃ g : Int, (n : Int) / 2 = g := ⟨_, rfl⟩
      rw [hg] at hfin hq
      have hgH := hidden hg
      cases r with
      | true =>
        have hI : (m : Int) ≤ 480 * (g - 1) := of_decide_eq_true hfin.out
        go_wp2_with fail
        go_ret
        exact ⟨_, _, rfl, hst.out, rfl⟩
      | false =>
        have hI : ¬ (m : Int) ≤ 480 * (g - 1) := of_decide_eq_false hfin.out
        go_wp2_with fail
        go_ret
        exact ⟨_, _, rfl, hst.out, rfl⟩
end
end Go.Proofs.YtfgggkheadfiaaaR
/- The statement StorePlays: the walk. -/
namespace Go.Proofs.YtfgggkheadfiaaaR
open Go Go.RowKit
attribute [local go_sem ↓] Go.wp_at_zero Go.wp_at_succ
theorem sdead_is {w : World} {o : Own} {S A B D ps pd base K H : Nat} {s : StoreM} (h : StoreAt w o S A B D ps pd base s) (hg : SG K H s) :
    Calls Try.prog 60 #[.pointer (some ⟨ps, 0, none⟩)] w fun e w' => e = .returned (.bool false) ∧ w = w' := by
  have := sdead_any h
  rw [hg.live, hg.dd] at this; exact this
theorem rtext9_is {w : World} {o : Own} {base : Nat} {p c : BitVec 64} {v : Value} {ls : List LineM} {T : List UInt8} (h : Lines w o base v ls) (hn : ls.length ≤ 60000) (hl : (ls.flatMap lineText).length ≤ 1300000) (hT : textM p c ls = T) :
    Calls Try.prog 59 #[.int .u64 (p.toNat : Int), .int .u64 (c.toNat : Int), v] w (Ret Nobody w o fun r _w' _o' => r = .string ⟨T.toArray⟩) := by
  have := rtext9_any (p := p) (c := c) h hn hl
  rw [hT] at this; exact this
theorem next_err (a : ActM) (k : KeptM) : (k.next a).2 = 0 ∨ (k.next a).2 = 1 := by
  unfold KeptM.next KeptM.promiseD KeptM.adoptD KeptM.appendD
  split
  · split <;> simp
  · split
    · split <;> simp
    · split
      · simp
      · split <;> simp
theorem not4 {E D Mx : Nat} (h1 : E ≤ Mx) (h2 : E ≠ D) : ¬ In4 (Mx + 1) (Mx + 2) (Mx + 3) D E := fun h => by
  rcases h with h | h | h | h <;> omega
theorem only4 {E D Mx : Nat} (h0 : E ≠ 0) (h1 : E ≤ Mx) (h2 : E ≠ D) : ∀ t, Only E t → t ≠ 0 ∧ ¬ In4 (Mx + 1) (Mx + 2) (Mx + 3) D t := fun t h => by
  cases h; exact ⟨h0, not4 h1 h2⟩
set_option maxRecDepth 100000 in
set_option maxHeartbeats 25600000 in
theorem storePlays_main {w : World} {o : Own} (n : Nat) (h8 : 8 ≤ n) (h400 : n ≤ 400) {v : Value} {l : List ActM} (hl : Acts w o v l) :
    Calls Try.prog 14 #[.int .i64 (n : Int), v] w (Ret Nobody w o fun v _ _ => v = .bool true) := by
  obtain ⟨M, -, hM⟩ := tag_bound o 0 w.heap.size
  have nn : ∀ k, ¬ Nobody k := fun _ h => h
  have hT0 : ¬ Above M 0 := fun h => by change M < 0 at h; omega
  obtain ⟨E, hE⟩ : ∃ E, E = M + 1 := ⟨_, rfl⟩
  obtain ⟨D, hD⟩ : ∃ D, D = M + 2 := ⟨_, rfl⟩
  have hD0 : D ≠ 0 := by omega
  have hE0 : E ≠ 0 := by omega
  have hED : E ≠ D := by omega
  have hEle : E ≤ D := by omega
  have hEM : ∀ k, k = E → M < k := fun k hk => by omega
  have nE0 : ¬ Only E 0 := fun h => by change 0 = E at h; omega
  have h4 : ∀ Mx, D ≤ Mx → ∀ k, In4 (Mx + 1) (Mx + 2) (Mx + 3) D k → Above M k := fun Mx h => in4_above (by omega) (by omega)
  have hab : ∀ Mx, D ≤ Mx → ∀ k, Above Mx k → Above M k := fun Mx h k hk => by change Mx < k at hk; show M < k; omega
  obtain ⟨H, hH⟩ : ∃ H, n / 2 = H := ⟨_, rfl⟩
  obtain ⟨aa, ac, rfl⟩ := hl.form
  have hgr := great_any hl
  obtain ⟨N, hN⟩ : ∃ N, l.length = N := ⟨_, rfl⟩
  rw [hN] at hl hgr ⊢
  have hlH := hidden hl
  have hNH := hidden hN
  have h8I : ¬ (n : Int) < 8 := by omega
  have h1I : ¬ (n : Int) < 1 := by omega
  have h4I : ¬ (400 : Int) < (n : Int) := by omega
  have hG0 := newS_sg (n := n) h8 (by omega)
  rw [hH] at hG0
  have hG0H := hidden hG0
  have hHH := hidden hH
  clear hl hN hG0 hH
  have hEH := hidden (And.intro hE hD)
  clear hE hD
  go_enter Try.func14, Try.ntmps14
  go_wp2_with fail
  refine hgr.mono ?_; rintro e wg ⟨v, og, rfl, hs, r, rfl, hfew⟩
  have hst := hs.above0 (M := M)
  have hfewH := hidden hfew
  clear hs hgr hfew
  cases r with
  | true =>
    go_wp2_with fail
    go_ret
    exact ⟨_, og, rfl, hst.noneAbove hM, rfl⟩
  | false =>
    have hnew := new_ok n wg og D (by omega) (by omega)
    go_wp2_with fail
    refine hnew.mono ?_; rintro e W1 ⟨v, o1, rfl, hs, pd, -, rfl, hd⟩
    have hst := hst.trans (hs.above0 (M := M))
    have hop := opens_any D (Nat.le_refl _) hD0 hG0H.out (by omega) (by simp [newS, DiskM.new]; omega) (t := newS n) hd
    clear hnew hs hd
    go_wp2_with fail
    refine hop.mono ?_; rintro e W2 ⟨v, o2, rfl, hs, ps, rfl, ha⟩
    have hst := hst.trans (hs.mono (hab D (Nat.le_refl _)))
    have s3 := (Step.refl Nobody W2 o2).alloc (.cells #[.int .u64 0, .int .u64 0, .slice none 0 0] 95) (E, 0)
    have b3 : (W2.alloc (.cells #[.int .u64 0, .int .u64 0, .slice none 0 0] 95)).heap[W2.heap.size]? = some (.cells [.int .u64 0, .int .u64 0, .slice none 0 0].toArray 95 (0, 0)) := heap_alloc_new W2 _
    have t3 : tagAt o2 W2.heap.size (E, 0) W2.heap.size = (E, 0) := tagAt_same _ _ _
    have hal := hidden (run_alloc_zero (P := Try.prog) W2 95 _ zc95)
    obtain ⟨W3, hW3⟩ : ∃ W3, W2.alloc (.cells #[.int .u64 0, .int .u64 0, .slice none 0 0] 95) = W3 := ⟨_, rfl⟩
    rw [hW3] at s3 b3 hal
    obtain ⟨o3, ho3⟩ : ∃ o3, tagAt o2 W2.heap.size (E, 0) = o3 := ⟨_, rfl⟩
    rw [ho3] at s3 t3
    have hkw : w.heap.size ≤ W2.heap.size := hst.size
    obtain ⟨kb, hkb⟩ : ∃ kb, W2.heap.size = kb := ⟨_, rfl⟩
    rw [hkb] at b3 t3 hal hkw
    have hkbH := hidden hkb
    have hF := hidden (And.intro (ha.step0 s3) (And.intro (hst.trans s3.above0) (And.intro b3 (show (o3 kb).1 = E by rw [t3]))))
    have hkwH := hidden hkw
    clear hop hs ha hst s3 b3 t3 hW3 ho3 hkb hkw
    go_wp2_with (first
      | ((with_reducible refine lit_alloc_at hal.out ?_); simp only [Act.put, List.setIfInBounds_toArray, List.set_cons_zero, List.set_cons_succ]))
    clear hal
    go_loopw [7, 10] (fun pv i wr => ∃ (j : Nat) (oj : Own) (s : StoreM) (ps Mx : Nat) (kv : Value), j ≤ N ∧ i = .int .i64 j ∧ pv = .pointer (some ⟨ps, 0, none⟩) ∧ D ≤ Mx ∧ StoreAt wr oj (Mx + 1) (Mx + 2) (Mx + 3) D ps pd 0 s ∧ Step (Above M) w o wr oj ∧
        wr.heap[kb]? = some (.cells [.int .u64 (s.kept.promised.toNat : Int), .int .u64 (s.kept.current.toNat : Int), kv].toArray 95 (0, 0)) ∧ (oj kb).1 = E ∧ Lines wr oj 0 kv s.kept.lines ∧
        SG (3 * j) H s ∧ KOk s.kept ∧ s.d.left < 0 ∧ s.d.pages.length = n) (fun _ i _ => N - (intOf i).toNat)
    case atStart => exact ⟨0, o3, newS n, ps, D, .slice none 0 0, Nat.zero_le _, rfl, rfl, Nat.le_refl _, hF.out.1, hF.out.2.1, hF.out.2.2.1, hF.out.2.2.2, Lines.nil _ _ _, hG0H.out, KOk.zero, by show (-1 : Int) < 0; omega, by simp [newS, DiskM.new]⟩
    case round =>
      clear hF
      obtain ⟨j, oj, s, px, Mx, kv, hj, rfl, rfl, hMx, ha, hst, hbk, tbk, hkl, hG, hk, hlf, hpl⟩ := hrel
      obtain ⟨hf60, hf300⟩ := hfewH.out (by trivial)
      have hj60 : j ≤ 60 := by have := hNH.out; omega
      obtain ⟨ka, kc, rfl⟩ := hkl.form
      obtain ⟨kn, hkn⟩ : ∃ kn, s.kept.lines.length = kn := ⟨_, rfl⟩
      rw [hkn] at hkl hbk
      have hknH := hidden hkn
      have hsH := hidden (And.intro hG (And.intro hk (And.intro hlf hpl)))
      have hf3H := hidden hf300
      clear hG hk hlf hpl hf300 hf60 hkn
      have hME : E ≤ Mx := Nat.le_trans hEle hMx
      have nAE : ¬ Above (Mx + 3) E := fun h => by change Mx + 3 < E at h; omega
      by_cases hlt : j < N
      · have hltI : (j : Int) < (N : Int) := by omega
        obtain ⟨a, hx⟩ : ∃ a, l[j]? = some a := ⟨_, List.getElem?_eq_getElem (by rw [hNH.out]; exact hlt)⟩
        obtain ⟨b, off, lv, rfl, hrg, hln, hk5, hbl, hbt⟩ := hlH.out.at hx
        obtain ⟨la, lc, rfl⟩ := hln.form
        have hn2 := hf3H.out a (List.mem_of_getElem? hx)
        obtain ⟨n2, hn2e⟩ : ∃ n2, a.ls.length = n2 := ⟨_, rfl⟩
        rw [hn2e] at hrg hln
        have hA := hidden (fun (W : World) (O : Own) (st : Step (Above M) w o W O) => (show W.rangeAt b (off + j * 3) [.int .u8 (a.k : Int), .int .u64 (a.e.toNat : Int), .slice la n2 lc] ∧ Lines W O 0 (.slice la n2 lc) a.ls from
          ⟨range_same hrg (st.block b hbl (by rw [hbt]; exact hT0)), hln.step st hT0⟩))
        have hn2H := hidden hn2
        clear hrg hln hx hbl hbt hn2 hn2e
        obtain ⟨q, hq⟩ : ∃ q, s.kept.next a = q := ⟨_, rfl⟩
        have hkk := hsH.out.2.1
        have hdr := (Step.refl Nobody wr oj).drew
        have hnx := hidden (fun (W : World) (O : Own) (st : Step Nobody wr oj W O) => dnext_any (p := s.kept.promised) (c := s.kept.current) (hkl.step st (nn _)) hkk.n a hk5 ((hA.out wr oj hst).2.step st (nn _)) (by have := hn2H.out; omega))
        have hq' : KeptM.next a ⟨s.kept.promised, s.kept.current, s.kept.lines⟩ = q := hq
        rw [hq'] at hnx
        have hqH := hidden hq
        have hS := hidden (And.intro (range_whole hbk : wr.rangeAt kb 0 [.int .u64 (s.kept.promised.toNat : Int), .int .u64 (s.kept.current.toNat : Int), .slice ka kn kc]) (hA.out wr oj hst).1)
        have hb0 : b < wr.heap.size := range_lt (hA.out wr oj hst).1 (by simp)
        have hSn := hidden (fun (W : World) (O : Own) (st : Step Nobody wr oj W O) => (show W.rangeAt kb 0 [.int .u64 (s.kept.promised.toNat : Int), .int .u64 (s.kept.current.toNat : Int), .slice ka kn kc] ∧ W.rangeAt b (off + j * 3) [.int .u8 (a.k : Int), .int .u64 (a.e.toNat : Int), .slice la n2 lc] from
          ⟨range_same hS.out.1 (st.block _ (lt_of_block hbk) (nn _)), range_same hS.out.2 (st.block _ hb0 (nn _))⟩))
        have hkbl := lt_of_block hbk
        have hR1 := hidden (And.intro ha (And.intro hst (And.intro hbk (And.intro tbk hkl))))
        clear hq hq' ha hst hbk tbk hkl hkk
        go_wp2_with fail
        refine region_cut (fun a0 a' w' => ∃ (g : Nat) (qa : Option Addr) (qn qc : Nat) (o' : Own), a' = Act.puts a0 [58, 59, 60, 61, 62, 63, 57, 64, 65, 11, 12] [.agg [.int .u64 (s.kept.promised.toNat : Int), .int .u64 (s.kept.current.toNat : Int), .slice ka kn kc].toArray, .slice (some ⟨b, off, none⟩) N ac, .int .i64 (j : Int), .pointer (some ⟨b, off + j * 3, none⟩), .agg [.int .u8 (a.k : Int), .int .u64 (a.e.toNat : Int), .slice la n2 lc].toArray,
            .tuple #[.agg [.int .u64 (q.1.promised.toNat : Int), .int .u64 (q.1.current.toNat : Int), .slice qa qn qc].toArray, .int .i64 q.2], .tuple #[.agg [.int .u64 (q.1.promised.toNat : Int), .int .u64 (q.1.current.toNat : Int), .slice qa qn qc].toArray, .int .i64 q.2], .agg [.int .u64 (q.1.promised.toNat : Int), .int .u64 (q.1.current.toNat : Int), .slice qa qn qc].toArray, .int .i64 q.2, .pointer (some ⟨g, 0, none⟩), .int .i64 q.2] ∧
            g ≠ kb ∧ w'.heap[g]? = some (.cells [.int .u64 (q.1.promised.toNat : Int), .int .u64 (q.1.current.toNat : Int), .slice qa qn qc].toArray 95 (0, 0)) ∧ o' g = (E, 1) ∧ w'.heap[kb]? = some (.cells [.int .u64 (s.kept.promised.toNat : Int), .int .u64 (s.kept.current.toNat : Int), .slice ka kn kc].toArray 95 (0, 0)) ∧ (o' kb).1 = E ∧ Lines w' o' 0 (.slice qa qn qc) q.1.lines ∧ Lines w' o' 0 (.slice ka kn kc) s.kept.lines ∧
            StoreAt w' o' (Mx + 1) (Mx + 2) (Mx + 3) D px pd 0 s ∧ Step (Above M) w o w' o') ?_ ?_
        · refine wp_region_need (fun w' => w'.rangeAt kb 0 [.int .u64 (s.kept.promised.toNat : Int), .int .u64 (s.kept.current.toNat : Int), .slice ka kn kc] ∧ w'.rangeAt b (off + j * 3) [.int .u8 (a.k : Int), .int .u64 (a.e.toNat : Int), .slice la n2 lc]) (fun i => decide (i < 11)) (by kernel_rfl) (hSn.out wr.drew oj hdr) (fun hHeld => ?_)
          obtain ⟨V, hV⟩ : ∃ V, wr.drew = V := ⟨_, rfl⟩
          rw [hV] at hHeld hdr ⊢
          clear hV
          refine wpAnyN_tk (i := 0) (v := .agg [.int .u64 (s.kept.promised.toNat : Int), .int .u64 (s.kept.current.toNat : Int), .slice ka kn kc].toArray) rfl (by kernel_rfl) (fun _ _ _ h => nomatch h.1) (yieldsIf_load_mid rfl 95 (.tmp 9) rfl kb 0 rfl [.int .u64 (s.kept.promised.toNat : Int), .int .u64 (s.kept.current.toNat : Int), .slice ka kn kc] _ (fun w h => h.1) Try.underlying95 rfl (by kernel_rfl)) (by assumption) ?_
          simp only [Act.put, List.setIfInBounds_toArray, List.set_cons_zero, List.set_cons_succ]
          refine wpAnyN_tk (i := 1) (v := ?_) rfl (by kernel_rfl) (fun _ _ _ h => nomatch h.1) (Or.inl ⟨by rfl, ?_⟩) (by assumption) ?_
          rotate_left
          · intro w hSw; ((try dsimp only at hSw); go_simp; (try with_reducible rfl))
          simp only [Act.put, List.setIfInBounds_toArray, List.set_cons_zero, List.set_cons_succ]
          refine wpAnyN_tk (i := 2) (v := ?_) rfl (by kernel_rfl) (fun _ _ _ h => nomatch h.1) (Or.inl ⟨by rfl, ?_⟩) (by assumption) ?_
          rotate_left
          · intro w hSw; ((try dsimp only at hSw); go_simp; (try with_reducible rfl))
          simp only [Act.put, List.setIfInBounds_toArray, List.set_cons_zero, List.set_cons_succ]
          refine wpAnyN_tk (i := 3) (v := ?_) rfl (by kernel_rfl) (fun _ _ _ h => nomatch h.1) (Or.inl ⟨by rfl, ?_⟩) (by assumption) ?_
          rotate_left
          · intro w hSw; ((try dsimp only at hSw); go_simp; (try with_reducible rfl))
          simp only [Act.put, List.setIfInBounds_toArray, List.set_cons_zero, List.set_cons_succ]
          refine wpAnyN_tk (i := 4) (v := .agg [.int .u8 (a.k : Int), .int .u64 (a.e.toNat : Int), .slice la n2 lc].toArray) rfl (by kernel_rfl) (fun _ _ _ h => nomatch h.1) (yieldsIf_load_mid rfl 99 (.tmp 61) rfl b (off + j * 3) rfl [.int .u8 (a.k : Int), .int .u64 (a.e.toNat : Int), .slice la n2 lc] _ (fun w h => h.2) Try.underlying99 rfl (by kernel_rfl)) (by assumption) ?_
          simp only [Act.put, List.setIfInBounds_toArray, List.set_cons_zero, List.set_cons_succ]
          refine wpAnyN_two (i := 5) (j := 9) rfl rfl (by kernel_rfl) ?_ ?_
          · skip
            go_wp2_with fail
            refine (hnx.out V oj hdr).mono ?_; rintro e1 w2 ⟨v3, o2, rfl, hs3, qv, rfl, hql⟩
            have hJ2 := hdr.trans hs3
            obtain ⟨qa, qc, rfl⟩ := hql.form
            obtain ⟨qn, hqn⟩ : ∃ qn, q.1.lines.length = qn := ⟨_, rfl⟩
            rw [hqn] at hql
            simp only [hqn, keptV]
            have hS2 := hSn.out w2 o2 hJ2
            clear hqn
            go_wp2_with fail
            refine ⟨fun _ => hS2, ?_⟩
            refine wpAnyN_tk (i := 6) (v := ?_) rfl (by kernel_rfl) (fun _ _ _ h => nomatch h.1) (Or.inl ⟨by rfl, ?_⟩) (by assumption) ?_
            rotate_left
            · intro w hSw; ((try dsimp only at hSw); go_simp; (try with_reducible rfl))
            simp only [Act.put, List.setIfInBounds_toArray, List.set_cons_zero, List.set_cons_succ]
            refine wpAnyN_tk (i := 7) (v := ?_) rfl (by kernel_rfl) (fun _ _ _ h => nomatch h.1) (Or.inl ⟨by rfl, ?_⟩) (by assumption) ?_
            rotate_left
            · intro w hSw; ((try dsimp only at hSw); go_simp; (try with_reducible rfl))
            simp only [Act.put, List.setIfInBounds_toArray, List.set_cons_zero, List.set_cons_succ]
            refine wpAnyN_tk (i := 8) (v := ?_) rfl (by kernel_rfl) (fun _ _ _ h => nomatch h.1) (Or.inl ⟨by rfl, ?_⟩) (by assumption) ?_
            rotate_left
            · intro w hSw; ((try dsimp only at hSw); go_simp; (try with_reducible rfl))
            simp only [Act.put, List.setIfInBounds_toArray, List.set_cons_zero, List.set_cons_succ]
            refine wpAnyN_one (i := 9) rfl (by kernel_rfl) ?_
            have hal := hidden (run_alloc_zero (P := Try.prog) w2 95 _ zc95)
            have sA := (Step.refl Nobody w2 o2).alloc (.cells #[.int .u64 0, .int .u64 0, .slice none 0 0] 95) (E, 1)
            have bA : (w2.alloc (.cells #[.int .u64 0, .int .u64 0, .slice none 0 0] 95)).heap[w2.heap.size]? = some (.cells [.int .u64 0, .int .u64 0, .slice none 0 0].toArray 95 (0, 0)) := heap_alloc_new w2 _
            have tA : tagAt o2 w2.heap.size (E, 1) w2.heap.size = (E, 1) := tagAt_same _ _ _
            have hJ3 := hJ2.trans sA
            have hgw := hJ2.size
            refine lit_alloc hal.out ?_
            refine wpList_nil ?_
            obtain ⟨w3, hw2⟩ : ∃ w3, w2.alloc (.cells #[.int .u64 0, .int .u64 0, .slice none 0 0] 95) = w3 := ⟨_, rfl⟩
            obtain ⟨o3, ho2⟩ : ∃ o3, tagAt o2 w2.heap.size (E, 1) = o3 := ⟨_, rfl⟩
            rw [hw2] at bA sA hJ3 ⊢
            rw [ho2] at tA sA hJ3
            obtain ⟨g, hg⟩ : ∃ g, w2.heap.size = g := ⟨_, rfl⟩
            rw [hg] at bA tA hgw ⊢
            clear hal hw2 ho2 hg
            refine ⟨fun _ => hSn.out w3 o3 hJ3, ?_⟩
            simp only [Act.put, List.setIfInBounds_toArray, List.set_cons_zero, List.set_cons_succ]
            have hql := hql.step sA (nn _)
            have hbg := bA
            have htg := tA
            clear sA bA tA hJ2 hS2 hs3
            have hgk : g ≠ kb := by omega
            obtain ⟨ha, hst, hbk, tbk, hkl⟩ := hR1.out
            obtain ⟨hso, hsb⟩ := run_store_agg (P := Try.prog) (ty := 95) (vs := [.int .u64 (q.1.promised.toNat : Int), .int .u64 (q.1.current.toNat : Int), .slice qa qn qc]) hbg rfl (by kernel_rfl) rfl
            have hsoH := hidden hso
            have s4 := (Step.refl (Only E) w3 o3).setCells g 0 [.int .u64 (q.1.promised.toNat : Int), .int .u64 (q.1.current.toNat : Int), .slice qa qn qc] (.inl (by show (o3 g).1 = E; rw [htg]))
            have hbk2 := (hJ3.block kb hkbl (nn _)).trans hbk
            have tbk2 : (o3 kb).1 = E := by rw [hJ3.own kb hkbl]; exact tbk
            have hPo := hidden (show _ ∧ _ ∧ _ ∧ _ ∧ _ ∧ _ ∧ _ ∧ _ from ⟨hsb, (by rw [heap_setCells_other _ _ _ _ _ (Ne.symm hgk)]; exact hbk2 : (w3.setCells g 0 [.int .u64 (q.1.promised.toNat : Int), .int .u64 (q.1.current.toNat : Int), .slice qa qn qc]).heap[kb]? = some (.cells [.int .u64 (s.kept.promised.toNat : Int), .int .u64 (s.kept.current.toNat : Int), .slice ka kn kc].toArray 95 (0, 0))), tbk2, hql.step s4 nE0, (hkl.step hJ3 (nn _)).step s4 nE0, (ha.step0 hJ3).step s4 (only4 hE0 hME hED), (hst.trans hJ3.above0).trans (s4.mono hEM), htg⟩)
            have hS5 : (w3.setCells g 0 [.int .u64 (q.1.promised.toNat : Int), .int .u64 (q.1.current.toNat : Int), .slice qa qn qc]).rangeAt kb 0 [.int .u64 (s.kept.promised.toNat : Int), .int .u64 (s.kept.current.toNat : Int), .slice ka kn kc] ∧ (w3.setCells g 0 [.int .u64 (q.1.promised.toNat : Int), .int .u64 (q.1.current.toNat : Int), .slice qa qn qc]).rangeAt b (off + j * 3) [.int .u8 (a.k : Int), .int .u64 (a.e.toNat : Int), .slice la n2 lc] := ⟨range_same (hSn.out w3 o3 hJ3).1 (heap_setCells_other _ _ _ _ _ (Ne.symm hgk)), range_same (hSn.out w3 o3 hJ3).2 (heap_setCells_other _ _ _ _ _ (by omega))⟩
            clear hso hsb s4 hbk2 ha hst hbk tbk hkl hbg
            refine wpAnyN_one (i := 10) rfl (by kernel_rfl) ?_
            refine lit_store hsoH.out ?_
            refine wpList_nil ?_
            refine ⟨fun _ => hS5, ?_⟩
            simp only [Act.put]
            refine wpAnyN_one (i := 11) rfl (by kernel_rfl) ?_
            go_wp2_with fail
            refine ⟨fun h => by simp at h, ?_⟩
            refine wpAnyN_done (by kernel_rfl) ?_ _
            obtain ⟨p1, p2, p3, p4, p5, p6, p7, p8⟩ := hPo.out
            exact ⟨rfl, g, qa, qn, qc, o3, by simp only [Act.puts, Act.put, List.setIfInBounds_toArray, List.set_cons_zero, List.set_cons_succ], hgk, p1, p8, p2, p3, p4, p5, p6, p7⟩
          · skip
            have hal := hidden (run_alloc_zero (P := Try.prog) V 95 _ zc95)
            have sA := (Step.refl Nobody V oj).alloc (.cells #[.int .u64 0, .int .u64 0, .slice none 0 0] 95) (E, 1)
            have bA : (V.alloc (.cells #[.int .u64 0, .int .u64 0, .slice none 0 0] 95)).heap[V.heap.size]? = some (.cells [.int .u64 0, .int .u64 0, .slice none 0 0].toArray 95 (0, 0)) := heap_alloc_new V _
            have tA : tagAt oj V.heap.size (E, 1) V.heap.size = (E, 1) := tagAt_same _ _ _
            have hJ1 := hdr.trans sA
            have hgw := hdr.size
            refine lit_alloc hal.out ?_
            refine wpList_nil ?_
            obtain ⟨w1, hw2⟩ : ∃ w1, V.alloc (.cells #[.int .u64 0, .int .u64 0, .slice none 0 0] 95) = w1 := ⟨_, rfl⟩
            obtain ⟨o1, ho2⟩ : ∃ o1, tagAt oj V.heap.size (E, 1) = o1 := ⟨_, rfl⟩
            rw [hw2] at bA sA hJ1 ⊢
            rw [ho2] at tA sA hJ1
            obtain ⟨g, hg⟩ : ∃ g, V.heap.size = g := ⟨_, rfl⟩
            rw [hg] at bA tA hgw ⊢
            clear hal hw2 ho2 hg
            refine ⟨fun _ => hSn.out w1 o1 hJ1, ?_⟩
            simp only [Act.put, List.setIfInBounds_toArray, List.set_cons_zero, List.set_cons_succ]
            refine wpAnyN_one (i := 5) rfl (by kernel_rfl) ?_
            go_wp2_with fail
            refine (hnx.out w1 o1 hJ1).mono ?_; rintro e1 w2 ⟨v3, o2, rfl, hs3, qv, rfl, hql⟩
            have hJ2 := hJ1.trans hs3
            obtain ⟨qa, qc, rfl⟩ := hql.form
            obtain ⟨qn, hqn⟩ : ∃ qn, q.1.lines.length = qn := ⟨_, rfl⟩
            rw [hqn] at hql
            simp only [hqn, keptV]
            have hS2 := hSn.out w2 o2 hJ2
            clear hqn
            go_wp2_with fail
            refine ⟨fun _ => hS2, ?_⟩
            refine wpAnyN_tk (i := 6) (v := ?_) rfl (by kernel_rfl) (fun _ _ _ h => nomatch h.1) (Or.inl ⟨by rfl, ?_⟩) (by assumption) ?_
            rotate_left
            · intro w hSw; ((try dsimp only at hSw); go_simp; (try with_reducible rfl))
            simp only [Act.put, List.setIfInBounds_toArray, List.set_cons_zero, List.set_cons_succ]
            refine wpAnyN_tk (i := 7) (v := ?_) rfl (by kernel_rfl) (fun _ _ _ h => nomatch h.1) (Or.inl ⟨by rfl, ?_⟩) (by assumption) ?_
            rotate_left
            · intro w hSw; ((try dsimp only at hSw); go_simp; (try with_reducible rfl))
            simp only [Act.put, List.setIfInBounds_toArray, List.set_cons_zero, List.set_cons_succ]
            refine wpAnyN_tk (i := 8) (v := ?_) rfl (by kernel_rfl) (fun _ _ _ h => nomatch h.1) (Or.inl ⟨by rfl, ?_⟩) (by assumption) ?_
            rotate_left
            · intro w hSw; ((try dsimp only at hSw); go_simp; (try with_reducible rfl))
            simp only [Act.put, List.setIfInBounds_toArray, List.set_cons_zero, List.set_cons_succ]
            have hbg := (hs3.block g (lt_of_block bA) (nn _)).trans bA
            have htg := (hs3.own g (lt_of_block bA)).trans tA
            clear sA bA tA hJ1 hS2 hs3
            have hgk : g ≠ kb := by omega
            obtain ⟨ha, hst, hbk, tbk, hkl⟩ := hR1.out
            obtain ⟨hso, hsb⟩ := run_store_agg (P := Try.prog) (ty := 95) (vs := [.int .u64 (q.1.promised.toNat : Int), .int .u64 (q.1.current.toNat : Int), .slice qa qn qc]) hbg rfl (by kernel_rfl) rfl
            have hsoH := hidden hso
            have s4 := (Step.refl (Only E) w2 o2).setCells g 0 [.int .u64 (q.1.promised.toNat : Int), .int .u64 (q.1.current.toNat : Int), .slice qa qn qc] (.inl (by show (o2 g).1 = E; rw [htg]))
            have hbk2 := (hJ2.block kb hkbl (nn _)).trans hbk
            have tbk2 : (o2 kb).1 = E := by rw [hJ2.own kb hkbl]; exact tbk
            have hPo := hidden (show _ ∧ _ ∧ _ ∧ _ ∧ _ ∧ _ ∧ _ ∧ _ from ⟨hsb, (by rw [heap_setCells_other _ _ _ _ _ (Ne.symm hgk)]; exact hbk2 : (w2.setCells g 0 [.int .u64 (q.1.promised.toNat : Int), .int .u64 (q.1.current.toNat : Int), .slice qa qn qc]).heap[kb]? = some (.cells [.int .u64 (s.kept.promised.toNat : Int), .int .u64 (s.kept.current.toNat : Int), .slice ka kn kc].toArray 95 (0, 0))), tbk2, hql.step s4 nE0, (hkl.step hJ2 (nn _)).step s4 nE0, (ha.step0 hJ2).step s4 (only4 hE0 hME hED), (hst.trans hJ2.above0).trans (s4.mono hEM), htg⟩)
            have hS5 : (w2.setCells g 0 [.int .u64 (q.1.promised.toNat : Int), .int .u64 (q.1.current.toNat : Int), .slice qa qn qc]).rangeAt kb 0 [.int .u64 (s.kept.promised.toNat : Int), .int .u64 (s.kept.current.toNat : Int), .slice ka kn kc] ∧ (w2.setCells g 0 [.int .u64 (q.1.promised.toNat : Int), .int .u64 (q.1.current.toNat : Int), .slice qa qn qc]).rangeAt b (off + j * 3) [.int .u8 (a.k : Int), .int .u64 (a.e.toNat : Int), .slice la n2 lc] := ⟨range_same (hSn.out w2 o2 hJ2).1 (heap_setCells_other _ _ _ _ _ (Ne.symm hgk)), range_same (hSn.out w2 o2 hJ2).2 (heap_setCells_other _ _ _ _ _ (by omega))⟩
            clear hso hsb s4 hbk2 ha hst hbk tbk hkl hbg
            refine wpAnyN_one (i := 10) rfl (by kernel_rfl) ?_
            refine lit_store hsoH.out ?_
            refine wpList_nil ?_
            refine ⟨fun _ => hS5, ?_⟩
            simp only [Act.put]
            refine wpAnyN_one (i := 11) rfl (by kernel_rfl) ?_
            go_wp2_with fail
            refine ⟨fun h => by simp at h, ?_⟩
            refine wpAnyN_done (by kernel_rfl) ?_ _
            obtain ⟨p1, p2, p3, p4, p5, p6, p7, p8⟩ := hPo.out
            exact ⟨rfl, g, qa, qn, qc, o2, by simp only [Act.puts, Act.put, List.setIfInBounds_toArray, List.set_cons_zero, List.set_cons_succ], hgk, p1, p8, p2, p3, p4, p5, p6, p7⟩
        rintro a1 w4 ⟨g, qa, qn, qc, o2, rfl, hgk, hsb, htg, hbk4, tbk2, hql4, hkl4, ha4, hst4⟩
        simp only [Act.puts, Act.put, List.setIfInBounds_toArray, List.set_cons_zero, List.set_cons_succ]
        have hgw4 : kb < w4.heap.size ∧ g < w4.heap.size := ⟨lt_of_block hbk4, lt_of_block hsb⟩
        clear hnx hSn hS hR1 hdr hb0
        obtain ⟨hG, hk, hlf, hpl⟩ := hsH.out
        obtain ⟨s', e', he, hG', hk', hlf', hpl', hcase⟩ := act_up hG hlf (by omega) hk a
        have hdo := hidden (does_is (tags_new (Nat.le_trans hMx (Nat.le_refl _)) hD0) ha4 hG hk a hk5 (hA.out w4 o2 hst4).2 (by have := hn2H.out; omega) he)
        have hld := hidden (load99 (hA.out w4 o2 hst4).1)
        have hs'H := hidden (And.intro (hG'.mono (show 3 * j + 3 ≤ 3 * (j + 1) by omega)) (And.intro hk' (And.intro hlf' (hpl'.trans hpl))))
        have herr := next_err a s.kept
        rw [hqH.out] at hcase herr
        have hcaseH := hidden hcase
        have herrH := hidden herr
        have hkH := hidden hk
        have hR4 := hidden (And.intro hbk4 (And.intro tbk2 (And.intro hsb (And.intro htg (And.intro hql4 (And.intro hkl4 hst4))))))
        clear he hG hk hlf hpl hG' hk' hlf' hpl' hcase herr ha4 hql4 hkl4 hst4 hbk4 tbk2 hsb htg
        go_wp2_with (first
          | ((with_reducible refine lit_load_at hld.out ?_ ?_); rfl; simp only [Act.put, List.setIfInBounds_toArray, List.set_cons_zero, List.set_cons_succ]))
        refine hdo.out.mono ?_; rintro e w5 ⟨v5, o5, rfl, hs5, rfl, ha5⟩
        obtain ⟨hbk4, tbk2, hsb, htg, hql4, hkl4, hst4⟩ := hR4.out
        have nI0 := in4_0 (tags_new (Mx := Mx) hMx hD0)
        have nIE : ¬ In4 (Mx + 1) (Mx + 2) (Mx + 3) D E := not4 hME hED
        have hbk5 := (hs5.block kb hgw4.1 (by rw [tbk2]; exact nIE)).trans hbk4
        have tbk5 : (o5 kb).1 = E := by rw [hs5.own kb hgw4.1]; exact tbk2
        have hbg5 := (hs5.block g hgw4.2 (by rw [htg]; exact nIE)).trans hsb
        have tbg5 : (o5 g).1 = E := by rw [hs5.own g hgw4.2, htg]
        have hql5 := hql4.step hs5 nI0
        have hkl5 := hkl4.step hs5 nI0
        have hst5 := hst4.trans (hs5.mono (h4 Mx hMx))
        clear hbk4 tbk2 hsb htg hql4 hkl4 hst4 hs5 hdo hld hR4 hgw4
        rcases hcaseH.out with ⟨hce, hcq⟩ | ⟨hc2, hce, hcq, hfit⟩
        · rcases herrH.out with h0 | h1
          · rw [h0] at hce
            subst hce
            rw [h0]
            clear herrH hcaseH h0
            have hkq : s'.kept = q.1 := hcq
            rw [← hkq] at hbg5 hql5
            clear hkq hcq
            have hld := hidden (load95 (range_whole hbg5))
            obtain ⟨hso, hsb⟩ := run_store_agg (P := Try.prog) (ty := 95) (vs := [.int .u64 (s'.kept.promised.toNat : Int), .int .u64 (s'.kept.current.toNat : Int), .slice qa qn qc]) hbk5 rfl (by kernel_rfl) rfl
            have hsoH := hidden hso
            have s6 := (Step.refl (Only E) w5 o5).setCells kb 0 [.int .u64 (s'.kept.promised.toNat : Int), .int .u64 (s'.kept.current.toNat : Int), .slice qa qn qc] (.inl (by show (o5 kb).1 = E; exact tbk5))
            obtain ⟨w6, hw6⟩ : ∃ w6, w5.setCells kb 0 [.int .u64 (s'.kept.promised.toNat : Int), .int .u64 (s'.kept.current.toNat : Int), .slice qa qn qc] = w6 := ⟨_, rfl⟩
            rw [hw6] at hsoH hsb s6
            have ha6 := ha5.step s6 (only4 hE0 hME hED)
            have hql6 := hql5.step s6 nE0
            have hst6 := hst5.trans (s6.mono hEM)
            have cA : w6.cell? ⟨b, off + j * 3, none⟩ = some (.int .u8 (a.k : Int)) := (hA.out w6 o5 hst6).1 0 _ rfl
            clear hso hw6 s6 hbk5 hbg5 tbg5 hst5 ha5 hql5
            by_cases hk4 : a.k % 5 = 4
            · have hkI : (a.k : Int) % 5 = 4 := by omega
              have hop := hidden (opens_any (Mx + 3) (by omega) hD0 hs'H.out.1 (by omega) (by rw [hs'H.out.2.2.2]; exact h400) ha6.disk)
              go_wp2_with (first
                | ((with_reducible refine lit_load_at hld.out ?_ ?_); rfl; simp only [Act.put, List.setIfInBounds_toArray, List.set_cons_zero, List.set_cons_succ])
                | ((with_reducible refine lit_store_at hsoH.out ?_ ?_ ?_); rfl; rfl; simp only [Act.put]))
              refine hop.out.mono ?_; rintro e w7 ⟨v7, o7, rfl, hs7, pt, rfl, ha7⟩
              have hbk7 := (hs7.block kb (lt_of_block hsb) (by rw [tbk5]; exact nAE)).trans hsb
              have tbk7 : (o7 kb).1 = E := by rw [hs7.own kb (lt_of_block hsb)]; exact tbk5
              have hql7 := hql6.step hs7 (fun h => by change Mx + 3 < 0 at h; omega)
              have hst7 := hst6.trans (hs7.mono (hab (Mx + 3) (by omega)))
              clear hs7 ha6 hsb tbk5 hql6 hst6 hop cA
              obtain ⟨T, hT⟩ : ∃ T, textM s'.kept.promised s'.kept.current s'.kept.lines = T := ⟨_, rfl⟩
              have hdr := (Step.refl Nobody w7 o7).drew
              have htx := hidden (text_is (ha7.step0 hdr) hs'H.out.2.1 hT)
              have hTx := hidden (fun (W : World) (O : Own) (st : Step Nobody w7 o7 W O) => rtext9_is (p := s'.kept.promised) (c := s'.kept.current) (hql7.step st (nn _)) (by have := hs'H.out.2.1.n; omega) hs'H.out.2.1.text hT)
              have hdd := hidden (fun (W : World) (O : Own) (st : Step Nobody w7 o7 W O) => sdead_is (ha7.step0 st) hs'H.out.1)
              have hSn := hidden (fun (W : World) (O : Own) (st : Step Nobody w7 o7 W O) => (show W.cell? ⟨kb, 0, none⟩ = some (.int .u64 (s'.kept.promised.toNat : Int)) ∧ W.cell? ⟨kb, 1, none⟩ = some (.int .u64 (s'.kept.current.toNat : Int)) ∧ W.cell? ⟨kb, 2, none⟩ = some (.slice qa qn qc) from by
                have hb := (st.block kb (lt_of_block hbk7) (nn _)).trans hbk7
                exact ⟨cell_of_block hb 0, cell_of_block hb 1, cell_of_block hb 2⟩))
              have hRz := hidden (fun (W : World) (O : Own) (st : Step Nobody w7 o7 W O) => And.intro (ha7.step0 st) (And.intro (hst7.trans st.above0) (And.intro ((st.block kb (lt_of_block hbk7) (nn _)).trans hbk7) (And.intro (show (O kb).1 = E by rw [st.own kb (lt_of_block hbk7)]; exact tbk7) (hql7.step st (nn _))))))
              clear ha7 hst7 hbk7 tbk7 hql7 hT
              go_wp2_with fail
              refine wp_region_need (fun w' => w'.cell? ⟨kb, 0, none⟩ = some (.int .u64 (s'.kept.promised.toNat : Int)) ∧ w'.cell? ⟨kb, 1, none⟩ = some (.int .u64 (s'.kept.current.toNat : Int)) ∧ w'.cell? ⟨kb, 2, none⟩ = some (.slice qa qn qc)) (fun _ => true) (by kernel_rfl) (hSn.out w7.drew o7 hdr) (fun hHeld => ?_)
              refine wpAnyN_tk (i := 0) (v := ?_) rfl (by kernel_rfl) (fun _ _ _ h => h) (Or.inl ⟨by rfl, ?_⟩) (by assumption) ?_
              rotate_left
              · intro w hSw; ((try dsimp only at hSw); go_simp; (try with_reducible rfl))
              simp only [Act.put, List.setIfInBounds_toArray, List.set_cons_zero, List.set_cons_succ]
              refine wpAnyN_tk (i := 2) (v := ?_) rfl (by kernel_rfl) (fun _ _ _ h => h) (Or.inl ⟨by rfl, ?_⟩) (by assumption) ?_
              rotate_left
              · intro w hSw; ((try dsimp only at hSw); go_simp; (try with_reducible rfl))
              simp only [Act.put, List.setIfInBounds_toArray, List.set_cons_zero, List.set_cons_succ]
              refine wpAnyN_tk (i := 3) (v := ?_) rfl (by kernel_rfl) (fun _ _ _ h => h) (Or.inl ⟨by rfl, ?_⟩) (by assumption) ?_
              rotate_left
              · intro w hSw; ((try dsimp only at hSw); go_simp; (try with_reducible rfl))
              simp only [Act.put, List.setIfInBounds_toArray, List.set_cons_zero, List.set_cons_succ]
              refine wpAnyN_tk (i := 4) (v := ?_) rfl (by kernel_rfl) (fun _ _ _ h => h) (Or.inl ⟨by rfl, ?_⟩) (by assumption) ?_
              rotate_left
              · intro w hSw; ((try dsimp only at hSw); go_simp; (try with_reducible rfl))
              simp only [Act.put, List.setIfInBounds_toArray, List.set_cons_zero, List.set_cons_succ]
              refine wpAnyN_tk (i := 5) (v := ?_) rfl (by kernel_rfl) (fun _ _ _ h => h) (Or.inl ⟨by rfl, ?_⟩) (by assumption) ?_
              rotate_left
              · intro w hSw; ((try dsimp only at hSw); go_simp; (try with_reducible rfl))
              simp only [Act.put, List.setIfInBounds_toArray, List.set_cons_zero, List.set_cons_succ]
              refine wpAnyN_tk (i := 6) (v := ?_) rfl (by kernel_rfl) (fun _ _ _ h => h) (Or.inl ⟨by rfl, ?_⟩) (by assumption) ?_
              rotate_left
              · intro w hSw; ((try dsimp only at hSw); go_simp; (try with_reducible rfl))
              simp only [Act.put, List.setIfInBounds_toArray, List.set_cons_zero, List.set_cons_succ]
              refine wpAnyN_tk (i := 7) (v := ?_) rfl (by kernel_rfl) (fun _ _ _ h => h) (Or.inl ⟨by rfl, ?_⟩) (by assumption) ?_
              rotate_left
              · intro w hSw; ((try dsimp only at hSw); go_simp; (try with_reducible rfl))
              simp only [Act.put, List.setIfInBounds_toArray, List.set_cons_zero, List.set_cons_succ]
              refine wpAnyN_one (i := 1) rfl (by kernel_rfl) ?_
              go_wp2_with fail
              refine htx.out.mono ?_; rintro e1 w8 ⟨v8, o8, rfl, hs8, rfl⟩
              have st8 := hdr.trans hs8
              have hS8 := hSn.out w8 o8 st8
              clear hHeld hs8
              go_wp2_with fail
              refine ⟨fun _ => hS8, ?_⟩
              refine wpAnyN_one (i := 8) rfl (by kernel_rfl) ?_
              go_wp2_with fail
              refine (hTx.out w8 o8 st8).mono ?_; rintro e1 w9 ⟨v9, o9, rfl, hs9, rfl⟩
              have st9 := st8.trans hs9
              have hS9 := hSn.out w9 o9 st9
              clear hS8 hs9
              go_wp2_with fail
              refine ⟨fun _ => hS9, ?_⟩
              refine wpAnyN_tk (i := 9) (v := ?_) rfl (by kernel_rfl) (fun _ _ _ h => h) (Or.inl ⟨by rfl, ?_⟩) (by assumption) ?_
              rotate_left
              · intro w hSw; ((try dsimp only at hSw); go_simp; (try with_reducible rfl))
              simp only [Act.put, List.setIfInBounds_toArray, List.set_cons_zero, List.set_cons_succ]
              refine wpAnyN_tk (i := 10) (v := ?_) rfl (by kernel_rfl) (fun _ _ _ h => h) (Or.inl ⟨by rfl, ?_⟩) (by assumption) ?_
              rotate_left
              · intro w hSw; ((try dsimp only at hSw); go_simp; (try with_reducible rfl))
              simp only [Act.put, List.setIfInBounds_toArray, List.set_cons_zero, List.set_cons_succ]
              refine wpAnyN_tk (i := 11) (v := ?_) rfl (by kernel_rfl) (fun _ _ _ h => h) (Or.inl ⟨by rfl, ?_⟩) (by assumption) ?_
              rotate_left
              · intro w hSw; ((try dsimp only at hSw); go_simp; (try with_reducible rfl))
              simp only [Act.put, List.setIfInBounds_toArray, List.set_cons_zero, List.set_cons_succ]
              refine wpAnyN_one (i := 12) rfl (by kernel_rfl) ?_
              go_wp2_with fail
              refine (hdd.out w9 o9 st9).mono ?_; rintro e1 wz ⟨rfl, rfl⟩
              go_wp2_with fail
              refine ⟨fun _ => hS9, ?_⟩
              refine wpAnyN_tk (i := 13) (v := ?_) rfl (by kernel_rfl) (fun _ _ _ h => h) (Or.inl ⟨by rfl, ?_⟩) (by assumption) ?_
              rotate_left
              · intro w hSw; ((try dsimp only at hSw); go_simp; (try with_reducible rfl))
              simp only [Act.put, List.setIfInBounds_toArray, List.set_cons_zero, List.set_cons_succ]
              refine wpAnyN_done (by kernel_rfl) ?_ _
              have hRf := hidden (hRz.out w9 o9 st9)
              clear hS9 st9 st8 hRz hSn hdd hTx htx hdr
              go_wp2_with fail
              go_roundw
              case rel => exact ⟨j + 1, o9, s', pt, Mx + 3, .slice qa qn qc, by omega, by go_num, rfl, by omega, hRf.out.1, hRf.out.2.1, hRf.out.2.2.1, hRf.out.2.2.2.1, hRf.out.2.2.2.2, hs'H.out.1, hs'H.out.2.1, hs'H.out.2.2.1, hs'H.out.2.2.2⟩
              case measure => simp [intOf]; omega
            · obtain ⟨r5, hr5⟩ : ∃ r5 : Nat, a.k % 5 = r5 := ⟨_, rfl⟩
              have hkI : (a.k : Int) % 5 = (r5 : Int) := by omega
              have hkN : ((r5 : Int) == 4) = false := by simp; omega
              have hbk7 := hsb
              have tbk7 := tbk5
              have hql7 := hql6
              have hst7 := hst6
              have ha7 := ha6
              clear hr5 hk4 ha6 hsb tbk5 hql6 hst6
              go_wp2_with (first
                | ((with_reducible refine lit_load_at hld.out ?_ ?_); rfl; simp only [Act.put, List.setIfInBounds_toArray, List.set_cons_zero, List.set_cons_succ])
                | ((with_reducible refine lit_store_at hsoH.out ?_ ?_ ?_); rfl; rfl; simp only [Act.put]))
              clear cA
              obtain ⟨T, hT⟩ : ∃ T, textM s'.kept.promised s'.kept.current s'.kept.lines = T := ⟨_, rfl⟩
              have hdr := (Step.refl Nobody w6 o5).drew
              have htx := hidden (text_is (ha7.step0 hdr) hs'H.out.2.1 hT)
              have hTx := hidden (fun (W : World) (O : Own) (st : Step Nobody w6 o5 W O) => rtext9_is (p := s'.kept.promised) (c := s'.kept.current) (hql7.step st (nn _)) (by have := hs'H.out.2.1.n; omega) hs'H.out.2.1.text hT)
              have hdd := hidden (fun (W : World) (O : Own) (st : Step Nobody w6 o5 W O) => sdead_is (ha7.step0 st) hs'H.out.1)
              have hSn := hidden (fun (W : World) (O : Own) (st : Step Nobody w6 o5 W O) => (show W.cell? ⟨kb, 0, none⟩ = some (.int .u64 (s'.kept.promised.toNat : Int)) ∧ W.cell? ⟨kb, 1, none⟩ = some (.int .u64 (s'.kept.current.toNat : Int)) ∧ W.cell? ⟨kb, 2, none⟩ = some (.slice qa qn qc) from by
                have hb := (st.block kb (lt_of_block hbk7) (nn _)).trans hbk7
                exact ⟨cell_of_block hb 0, cell_of_block hb 1, cell_of_block hb 2⟩))
              have hRz := hidden (fun (W : World) (O : Own) (st : Step Nobody w6 o5 W O) => And.intro (ha7.step0 st) (And.intro (hst7.trans st.above0) (And.intro ((st.block kb (lt_of_block hbk7) (nn _)).trans hbk7) (And.intro (show (O kb).1 = E by rw [st.own kb (lt_of_block hbk7)]; exact tbk7) (hql7.step st (nn _))))))
              clear ha7 hst7 hbk7 tbk7 hql7 hT
              go_wp2_with fail
              refine wp_region_need (fun w' => w'.cell? ⟨kb, 0, none⟩ = some (.int .u64 (s'.kept.promised.toNat : Int)) ∧ w'.cell? ⟨kb, 1, none⟩ = some (.int .u64 (s'.kept.current.toNat : Int)) ∧ w'.cell? ⟨kb, 2, none⟩ = some (.slice qa qn qc)) (fun _ => true) (by kernel_rfl) (hSn.out w6.drew o5 hdr) (fun hHeld => ?_)
              refine wpAnyN_tk (i := 0) (v := ?_) rfl (by kernel_rfl) (fun _ _ _ h => h) (Or.inl ⟨by rfl, ?_⟩) (by assumption) ?_
              rotate_left
              · intro w hSw; ((try dsimp only at hSw); go_simp; (try with_reducible rfl))
              simp only [Act.put, List.setIfInBounds_toArray, List.set_cons_zero, List.set_cons_succ]
              refine wpAnyN_tk (i := 2) (v := ?_) rfl (by kernel_rfl) (fun _ _ _ h => h) (Or.inl ⟨by rfl, ?_⟩) (by assumption) ?_
              rotate_left
              · intro w hSw; ((try dsimp only at hSw); go_simp; (try with_reducible rfl))
              simp only [Act.put, List.setIfInBounds_toArray, List.set_cons_zero, List.set_cons_succ]
              refine wpAnyN_tk (i := 3) (v := ?_) rfl (by kernel_rfl) (fun _ _ _ h => h) (Or.inl ⟨by rfl, ?_⟩) (by assumption) ?_
              rotate_left
              · intro w hSw; ((try dsimp only at hSw); go_simp; (try with_reducible rfl))
              simp only [Act.put, List.setIfInBounds_toArray, List.set_cons_zero, List.set_cons_succ]
              refine wpAnyN_tk (i := 4) (v := ?_) rfl (by kernel_rfl) (fun _ _ _ h => h) (Or.inl ⟨by rfl, ?_⟩) (by assumption) ?_
              rotate_left
              · intro w hSw; ((try dsimp only at hSw); go_simp; (try with_reducible rfl))
              simp only [Act.put, List.setIfInBounds_toArray, List.set_cons_zero, List.set_cons_succ]
              refine wpAnyN_tk (i := 5) (v := ?_) rfl (by kernel_rfl) (fun _ _ _ h => h) (Or.inl ⟨by rfl, ?_⟩) (by assumption) ?_
              rotate_left
              · intro w hSw; ((try dsimp only at hSw); go_simp; (try with_reducible rfl))
              simp only [Act.put, List.setIfInBounds_toArray, List.set_cons_zero, List.set_cons_succ]
              refine wpAnyN_tk (i := 6) (v := ?_) rfl (by kernel_rfl) (fun _ _ _ h => h) (Or.inl ⟨by rfl, ?_⟩) (by assumption) ?_
              rotate_left
              · intro w hSw; ((try dsimp only at hSw); go_simp; (try with_reducible rfl))
              simp only [Act.put, List.setIfInBounds_toArray, List.set_cons_zero, List.set_cons_succ]
              refine wpAnyN_tk (i := 7) (v := ?_) rfl (by kernel_rfl) (fun _ _ _ h => h) (Or.inl ⟨by rfl, ?_⟩) (by assumption) ?_
              rotate_left
              · intro w hSw; ((try dsimp only at hSw); go_simp; (try with_reducible rfl))
              simp only [Act.put, List.setIfInBounds_toArray, List.set_cons_zero, List.set_cons_succ]
              refine wpAnyN_one (i := 1) rfl (by kernel_rfl) ?_
              go_wp2_with fail
              refine htx.out.mono ?_; rintro e1 w8 ⟨v8, o8, rfl, hs8, rfl⟩
              have st8 := hdr.trans hs8
              have hS8 := hSn.out w8 o8 st8
              clear hHeld hs8
              go_wp2_with fail
              refine ⟨fun _ => hS8, ?_⟩
              refine wpAnyN_one (i := 8) rfl (by kernel_rfl) ?_
              go_wp2_with fail
              refine (hTx.out w8 o8 st8).mono ?_; rintro e1 w9 ⟨v9, o9, rfl, hs9, rfl⟩
              have st9 := st8.trans hs9
              have hS9 := hSn.out w9 o9 st9
              clear hS8 hs9
              go_wp2_with fail
              refine ⟨fun _ => hS9, ?_⟩
              refine wpAnyN_tk (i := 9) (v := ?_) rfl (by kernel_rfl) (fun _ _ _ h => h) (Or.inl ⟨by rfl, ?_⟩) (by assumption) ?_
              rotate_left
              · intro w hSw; ((try dsimp only at hSw); go_simp; (try with_reducible rfl))
              simp only [Act.put, List.setIfInBounds_toArray, List.set_cons_zero, List.set_cons_succ]
              refine wpAnyN_tk (i := 10) (v := ?_) rfl (by kernel_rfl) (fun _ _ _ h => h) (Or.inl ⟨by rfl, ?_⟩) (by assumption) ?_
              rotate_left
              · intro w hSw; ((try dsimp only at hSw); go_simp; (try with_reducible rfl))
              simp only [Act.put, List.setIfInBounds_toArray, List.set_cons_zero, List.set_cons_succ]
              refine wpAnyN_tk (i := 11) (v := ?_) rfl (by kernel_rfl) (fun _ _ _ h => h) (Or.inl ⟨by rfl, ?_⟩) (by assumption) ?_
              rotate_left
              · intro w hSw; ((try dsimp only at hSw); go_simp; (try with_reducible rfl))
              simp only [Act.put, List.setIfInBounds_toArray, List.set_cons_zero, List.set_cons_succ]
              refine wpAnyN_one (i := 12) rfl (by kernel_rfl) ?_
              go_wp2_with fail
              refine (hdd.out w9 o9 st9).mono ?_; rintro e1 wz ⟨rfl, rfl⟩
              go_wp2_with fail
              refine ⟨fun _ => hS9, ?_⟩
              refine wpAnyN_tk (i := 13) (v := ?_) rfl (by kernel_rfl) (fun _ _ _ h => h) (Or.inl ⟨by rfl, ?_⟩) (by assumption) ?_
              rotate_left
              · intro w hSw; ((try dsimp only at hSw); go_simp; (try with_reducible rfl))
              simp only [Act.put, List.setIfInBounds_toArray, List.set_cons_zero, List.set_cons_succ]
              refine wpAnyN_done (by kernel_rfl) ?_ _
              have hRf := hidden (hRz.out w9 o9 st9)
              clear hS9 st9 st8 hRz hSn hdd hTx htx hdr
              go_wp2_with fail
              go_roundw
              case rel => exact ⟨j + 1, o9, s', px, Mx, .slice qa qn qc, by omega, by go_num, rfl, by omega, hRf.out.1, hRf.out.2.1, hRf.out.2.2.1, hRf.out.2.2.2.1, hRf.out.2.2.2.2, hs'H.out.1, hs'H.out.2.1, hs'H.out.2.2.1, hs'H.out.2.2.2⟩
              case measure => simp [intOf]; omega
          · rw [h1] at hce
            subst hce
            rw [h1]
            clear herrH hcaseH h1
            have hkq : s'.kept = q.1 := hcq
            rw [← hkq] at hbg5 hql5
            clear hkq hcq
            have hld := hidden (load95 (range_whole hbg5))
            obtain ⟨hso, hsb⟩ := run_store_agg (P := Try.prog) (ty := 95) (vs := [.int .u64 (s'.kept.promised.toNat : Int), .int .u64 (s'.kept.current.toNat : Int), .slice qa qn qc]) hbk5 rfl (by kernel_rfl) rfl
            have hsoH := hidden hso
            have s6 := (Step.refl (Only E) w5 o5).setCells kb 0 [.int .u64 (s'.kept.promised.toNat : Int), .int .u64 (s'.kept.current.toNat : Int), .slice qa qn qc] (.inl (by show (o5 kb).1 = E; exact tbk5))
            obtain ⟨w6, hw6⟩ : ∃ w6, w5.setCells kb 0 [.int .u64 (s'.kept.promised.toNat : Int), .int .u64 (s'.kept.current.toNat : Int), .slice qa qn qc] = w6 := ⟨_, rfl⟩
            rw [hw6] at hsoH hsb s6
            have ha6 := ha5.step s6 (only4 hE0 hME hED)
            have hql6 := hql5.step s6 nE0
            have hst6 := hst5.trans (s6.mono hEM)
            have cA : w6.cell? ⟨b, off + j * 3, none⟩ = some (.int .u8 (a.k : Int)) := (hA.out w6 o5 hst6).1 0 _ rfl
            clear hso hw6 s6 hbk5 hbg5 tbg5 hst5 ha5 hql5
            by_cases hk4 : a.k % 5 = 4
            · have hkI : (a.k : Int) % 5 = 4 := by omega
              have hop := hidden (opens_any (Mx + 3) (by omega) hD0 hs'H.out.1 (by omega) (by rw [hs'H.out.2.2.2]; exact h400) ha6.disk)
              go_wp2_with (first
                | ((with_reducible refine lit_load_at hld.out ?_ ?_); rfl; simp only [Act.put, List.setIfInBounds_toArray, List.set_cons_zero, List.set_cons_succ])
                | ((with_reducible refine lit_store_at hsoH.out ?_ ?_ ?_); rfl; rfl; simp only [Act.put]))
              refine hop.out.mono ?_; rintro e w7 ⟨v7, o7, rfl, hs7, pt, rfl, ha7⟩
              have hbk7 := (hs7.block kb (lt_of_block hsb) (by rw [tbk5]; exact nAE)).trans hsb
              have tbk7 : (o7 kb).1 = E := by rw [hs7.own kb (lt_of_block hsb)]; exact tbk5
              have hql7 := hql6.step hs7 (fun h => by change Mx + 3 < 0 at h; omega)
              have hst7 := hst6.trans (hs7.mono (hab (Mx + 3) (by omega)))
              clear hs7 ha6 hsb tbk5 hql6 hst6 hop cA
              obtain ⟨T, hT⟩ : ∃ T, textM s'.kept.promised s'.kept.current s'.kept.lines = T := ⟨_, rfl⟩
              have hdr := (Step.refl Nobody w7 o7).drew
              have htx := hidden (text_is (ha7.step0 hdr) hs'H.out.2.1 hT)
              have hTx := hidden (fun (W : World) (O : Own) (st : Step Nobody w7 o7 W O) => rtext9_is (p := s'.kept.promised) (c := s'.kept.current) (hql7.step st (nn _)) (by have := hs'H.out.2.1.n; omega) hs'H.out.2.1.text hT)
              have hdd := hidden (fun (W : World) (O : Own) (st : Step Nobody w7 o7 W O) => sdead_is (ha7.step0 st) hs'H.out.1)
              have hSn := hidden (fun (W : World) (O : Own) (st : Step Nobody w7 o7 W O) => (show W.cell? ⟨kb, 0, none⟩ = some (.int .u64 (s'.kept.promised.toNat : Int)) ∧ W.cell? ⟨kb, 1, none⟩ = some (.int .u64 (s'.kept.current.toNat : Int)) ∧ W.cell? ⟨kb, 2, none⟩ = some (.slice qa qn qc) from by
                have hb := (st.block kb (lt_of_block hbk7) (nn _)).trans hbk7
                exact ⟨cell_of_block hb 0, cell_of_block hb 1, cell_of_block hb 2⟩))
              have hRz := hidden (fun (W : World) (O : Own) (st : Step Nobody w7 o7 W O) => And.intro (ha7.step0 st) (And.intro (hst7.trans st.above0) (And.intro ((st.block kb (lt_of_block hbk7) (nn _)).trans hbk7) (And.intro (show (O kb).1 = E by rw [st.own kb (lt_of_block hbk7)]; exact tbk7) (hql7.step st (nn _))))))
              clear ha7 hst7 hbk7 tbk7 hql7 hT
              go_wp2_with fail
              refine wp_region_need (fun w' => w'.cell? ⟨kb, 0, none⟩ = some (.int .u64 (s'.kept.promised.toNat : Int)) ∧ w'.cell? ⟨kb, 1, none⟩ = some (.int .u64 (s'.kept.current.toNat : Int)) ∧ w'.cell? ⟨kb, 2, none⟩ = some (.slice qa qn qc)) (fun _ => true) (by kernel_rfl) (hSn.out w7.drew o7 hdr) (fun hHeld => ?_)
              refine wpAnyN_tk (i := 0) (v := ?_) rfl (by kernel_rfl) (fun _ _ _ h => h) (Or.inl ⟨by rfl, ?_⟩) (by assumption) ?_
              rotate_left
              · intro w hSw; ((try dsimp only at hSw); go_simp; (try with_reducible rfl))
              simp only [Act.put, List.setIfInBounds_toArray, List.set_cons_zero, List.set_cons_succ]
              refine wpAnyN_tk (i := 2) (v := ?_) rfl (by kernel_rfl) (fun _ _ _ h => h) (Or.inl ⟨by rfl, ?_⟩) (by assumption) ?_
              rotate_left
              · intro w hSw; ((try dsimp only at hSw); go_simp; (try with_reducible rfl))
              simp only [Act.put, List.setIfInBounds_toArray, List.set_cons_zero, List.set_cons_succ]
              refine wpAnyN_tk (i := 3) (v := ?_) rfl (by kernel_rfl) (fun _ _ _ h => h) (Or.inl ⟨by rfl, ?_⟩) (by assumption) ?_
              rotate_left
              · intro w hSw; ((try dsimp only at hSw); go_simp; (try with_reducible rfl))
              simp only [Act.put, List.setIfInBounds_toArray, List.set_cons_zero, List.set_cons_succ]
              refine wpAnyN_tk (i := 4) (v := ?_) rfl (by kernel_rfl) (fun _ _ _ h => h) (Or.inl ⟨by rfl, ?_⟩) (by assumption) ?_
              rotate_left
              · intro w hSw; ((try dsimp only at hSw); go_simp; (try with_reducible rfl))
              simp only [Act.put, List.setIfInBounds_toArray, List.set_cons_zero, List.set_cons_succ]
              refine wpAnyN_tk (i := 5) (v := ?_) rfl (by kernel_rfl) (fun _ _ _ h => h) (Or.inl ⟨by rfl, ?_⟩) (by assumption) ?_
              rotate_left
              · intro w hSw; ((try dsimp only at hSw); go_simp; (try with_reducible rfl))
              simp only [Act.put, List.setIfInBounds_toArray, List.set_cons_zero, List.set_cons_succ]
              refine wpAnyN_tk (i := 6) (v := ?_) rfl (by kernel_rfl) (fun _ _ _ h => h) (Or.inl ⟨by rfl, ?_⟩) (by assumption) ?_
              rotate_left
              · intro w hSw; ((try dsimp only at hSw); go_simp; (try with_reducible rfl))
              simp only [Act.put, List.setIfInBounds_toArray, List.set_cons_zero, List.set_cons_succ]
              refine wpAnyN_tk (i := 7) (v := ?_) rfl (by kernel_rfl) (fun _ _ _ h => h) (Or.inl ⟨by rfl, ?_⟩) (by assumption) ?_
              rotate_left
              · intro w hSw; ((try dsimp only at hSw); go_simp; (try with_reducible rfl))
              simp only [Act.put, List.setIfInBounds_toArray, List.set_cons_zero, List.set_cons_succ]
              refine wpAnyN_one (i := 1) rfl (by kernel_rfl) ?_
              go_wp2_with fail
              refine htx.out.mono ?_; rintro e1 w8 ⟨v8, o8, rfl, hs8, rfl⟩
              have st8 := hdr.trans hs8
              have hS8 := hSn.out w8 o8 st8
              clear hHeld hs8
              go_wp2_with fail
              refine ⟨fun _ => hS8, ?_⟩
              refine wpAnyN_one (i := 8) rfl (by kernel_rfl) ?_
              go_wp2_with fail
              refine (hTx.out w8 o8 st8).mono ?_; rintro e1 w9 ⟨v9, o9, rfl, hs9, rfl⟩
              have st9 := st8.trans hs9
              have hS9 := hSn.out w9 o9 st9
              clear hS8 hs9
              go_wp2_with fail
              refine ⟨fun _ => hS9, ?_⟩
              refine wpAnyN_tk (i := 9) (v := ?_) rfl (by kernel_rfl) (fun _ _ _ h => h) (Or.inl ⟨by rfl, ?_⟩) (by assumption) ?_
              rotate_left
              · intro w hSw; ((try dsimp only at hSw); go_simp; (try with_reducible rfl))
              simp only [Act.put, List.setIfInBounds_toArray, List.set_cons_zero, List.set_cons_succ]
              refine wpAnyN_tk (i := 10) (v := ?_) rfl (by kernel_rfl) (fun _ _ _ h => h) (Or.inl ⟨by rfl, ?_⟩) (by assumption) ?_
              rotate_left
              · intro w hSw; ((try dsimp only at hSw); go_simp; (try with_reducible rfl))
              simp only [Act.put, List.setIfInBounds_toArray, List.set_cons_zero, List.set_cons_succ]
              refine wpAnyN_tk (i := 11) (v := ?_) rfl (by kernel_rfl) (fun _ _ _ h => h) (Or.inl ⟨by rfl, ?_⟩) (by assumption) ?_
              rotate_left
              · intro w hSw; ((try dsimp only at hSw); go_simp; (try with_reducible rfl))
              simp only [Act.put, List.setIfInBounds_toArray, List.set_cons_zero, List.set_cons_succ]
              refine wpAnyN_one (i := 12) rfl (by kernel_rfl) ?_
              go_wp2_with fail
              refine (hdd.out w9 o9 st9).mono ?_; rintro e1 wz ⟨rfl, rfl⟩
              go_wp2_with fail
              refine ⟨fun _ => hS9, ?_⟩
              refine wpAnyN_tk (i := 13) (v := ?_) rfl (by kernel_rfl) (fun _ _ _ h => h) (Or.inl ⟨by rfl, ?_⟩) (by assumption) ?_
              rotate_left
              · intro w hSw; ((try dsimp only at hSw); go_simp; (try with_reducible rfl))
              simp only [Act.put, List.setIfInBounds_toArray, List.set_cons_zero, List.set_cons_succ]
              refine wpAnyN_done (by kernel_rfl) ?_ _
              have hRf := hidden (hRz.out w9 o9 st9)
              clear hS9 st9 st8 hRz hSn hdd hTx htx hdr
              go_wp2_with fail
              go_roundw
              case rel => exact ⟨j + 1, o9, s', pt, Mx + 3, .slice qa qn qc, by omega, by go_num, rfl, by omega, hRf.out.1, hRf.out.2.1, hRf.out.2.2.1, hRf.out.2.2.2.1, hRf.out.2.2.2.2, hs'H.out.1, hs'H.out.2.1, hs'H.out.2.2.1, hs'H.out.2.2.2⟩
              case measure => simp [intOf]; omega
            · obtain ⟨r5, hr5⟩ : ∃ r5 : Nat, a.k % 5 = r5 := ⟨_, rfl⟩
              have hkI : (a.k : Int) % 5 = (r5 : Int) := by omega
              have hkN : ((r5 : Int) == 4) = false := by simp; omega
              have hbk7 := hsb
              have tbk7 := tbk5
              have hql7 := hql6
              have hst7 := hst6
              have ha7 := ha6
              clear hr5 hk4 ha6 hsb tbk5 hql6 hst6
              go_wp2_with (first
                | ((with_reducible refine lit_load_at hld.out ?_ ?_); rfl; simp only [Act.put, List.setIfInBounds_toArray, List.set_cons_zero, List.set_cons_succ])
                | ((with_reducible refine lit_store_at hsoH.out ?_ ?_ ?_); rfl; rfl; simp only [Act.put]))
              clear cA
              obtain ⟨T, hT⟩ : ∃ T, textM s'.kept.promised s'.kept.current s'.kept.lines = T := ⟨_, rfl⟩
              have hdr := (Step.refl Nobody w6 o5).drew
              have htx := hidden (text_is (ha7.step0 hdr) hs'H.out.2.1 hT)
              have hTx := hidden (fun (W : World) (O : Own) (st : Step Nobody w6 o5 W O) => rtext9_is (p := s'.kept.promised) (c := s'.kept.current) (hql7.step st (nn _)) (by have := hs'H.out.2.1.n; omega) hs'H.out.2.1.text hT)
              have hdd := hidden (fun (W : World) (O : Own) (st : Step Nobody w6 o5 W O) => sdead_is (ha7.step0 st) hs'H.out.1)
              have hSn := hidden (fun (W : World) (O : Own) (st : Step Nobody w6 o5 W O) => (show W.cell? ⟨kb, 0, none⟩ = some (.int .u64 (s'.kept.promised.toNat : Int)) ∧ W.cell? ⟨kb, 1, none⟩ = some (.int .u64 (s'.kept.current.toNat : Int)) ∧ W.cell? ⟨kb, 2, none⟩ = some (.slice qa qn qc) from by
                have hb := (st.block kb (lt_of_block hbk7) (nn _)).trans hbk7
                exact ⟨cell_of_block hb 0, cell_of_block hb 1, cell_of_block hb 2⟩))
              have hRz := hidden (fun (W : World) (O : Own) (st : Step Nobody w6 o5 W O) => And.intro (ha7.step0 st) (And.intro (hst7.trans st.above0) (And.intro ((st.block kb (lt_of_block hbk7) (nn _)).trans hbk7) (And.intro (show (O kb).1 = E by rw [st.own kb (lt_of_block hbk7)]; exact tbk7) (hql7.step st (nn _))))))
              clear ha7 hst7 hbk7 tbk7 hql7 hT
              go_wp2_with fail
              refine wp_region_need (fun w' => w'.cell? ⟨kb, 0, none⟩ = some (.int .u64 (s'.kept.promised.toNat : Int)) ∧ w'.cell? ⟨kb, 1, none⟩ = some (.int .u64 (s'.kept.current.toNat : Int)) ∧ w'.cell? ⟨kb, 2, none⟩ = some (.slice qa qn qc)) (fun _ => true) (by kernel_rfl) (hSn.out w6.drew o5 hdr) (fun hHeld => ?_)
              refine wpAnyN_tk (i := 0) (v := ?_) rfl (by kernel_rfl) (fun _ _ _ h => h) (Or.inl ⟨by rfl, ?_⟩) (by assumption) ?_
              rotate_left
              · intro w hSw; ((try dsimp only at hSw); go_simp; (try with_reducible rfl))
              simp only [Act.put, List.setIfInBounds_toArray, List.set_cons_zero, List.set_cons_succ]
              refine wpAnyN_tk (i := 2) (v := ?_) rfl (by kernel_rfl) (fun _ _ _ h => h) (Or.inl ⟨by rfl, ?_⟩) (by assumption) ?_
              rotate_left
              · intro w hSw; ((try dsimp only at hSw); go_simp; (try with_reducible rfl))
              simp only [Act.put, List.setIfInBounds_toArray, List.set_cons_zero, List.set_cons_succ]
              refine wpAnyN_tk (i := 3) (v := ?_) rfl (by kernel_rfl) (fun _ _ _ h => h) (Or.inl ⟨by rfl, ?_⟩) (by assumption) ?_
              rotate_left
              · intro w hSw; ((try dsimp only at hSw); go_simp; (try with_reducible rfl))
              simp only [Act.put, List.setIfInBounds_toArray, List.set_cons_zero, List.set_cons_succ]
              refine wpAnyN_tk (i := 4) (v := ?_) rfl (by kernel_rfl) (fun _ _ _ h => h) (Or.inl ⟨by rfl, ?_⟩) (by assumption) ?_
              rotate_left
              · intro w hSw; ((try dsimp only at hSw); go_simp; (try with_reducible rfl))
              simp only [Act.put, List.setIfInBounds_toArray, List.set_cons_zero, List.set_cons_succ]
              refine wpAnyN_tk (i := 5) (v := ?_) rfl (by kernel_rfl) (fun _ _ _ h => h) (Or.inl ⟨by rfl, ?_⟩) (by assumption) ?_
              rotate_left
              · intro w hSw; ((try dsimp only at hSw); go_simp; (try with_reducible rfl))
              simp only [Act.put, List.setIfInBounds_toArray, List.set_cons_zero, List.set_cons_succ]
              refine wpAnyN_tk (i := 6) (v := ?_) rfl (by kernel_rfl) (fun _ _ _ h => h) (Or.inl ⟨by rfl, ?_⟩) (by assumption) ?_
              rotate_left
              · intro w hSw; ((try dsimp only at hSw); go_simp; (try with_reducible rfl))
              simp only [Act.put, List.setIfInBounds_toArray, List.set_cons_zero, List.set_cons_succ]
              refine wpAnyN_tk (i := 7) (v := ?_) rfl (by kernel_rfl) (fun _ _ _ h => h) (Or.inl ⟨by rfl, ?_⟩) (by assumption) ?_
              rotate_left
              · intro w hSw; ((try dsimp only at hSw); go_simp; (try with_reducible rfl))
              simp only [Act.put, List.setIfInBounds_toArray, List.set_cons_zero, List.set_cons_succ]
              refine wpAnyN_one (i := 1) rfl (by kernel_rfl) ?_
              go_wp2_with fail
              refine htx.out.mono ?_; rintro e1 w8 ⟨v8, o8, rfl, hs8, rfl⟩
              have st8 := hdr.trans hs8
              have hS8 := hSn.out w8 o8 st8
              clear hHeld hs8
              go_wp2_with fail
              refine ⟨fun _ => hS8, ?_⟩
              refine wpAnyN_one (i := 8) rfl (by kernel_rfl) ?_
              go_wp2_with fail
              refine (hTx.out w8 o8 st8).mono ?_; rintro e1 w9 ⟨v9, o9, rfl, hs9, rfl⟩
              have st9 := st8.trans hs9
              have hS9 := hSn.out w9 o9 st9
              clear hS8 hs9
              go_wp2_with fail
              refine ⟨fun _ => hS9, ?_⟩
              refine wpAnyN_tk (i := 9) (v := ?_) rfl (by kernel_rfl) (fun _ _ _ h => h) (Or.inl ⟨by rfl, ?_⟩) (by assumption) ?_
              rotate_left
              · intro w hSw; ((try dsimp only at hSw); go_simp; (try with_reducible rfl))
              simp only [Act.put, List.setIfInBounds_toArray, List.set_cons_zero, List.set_cons_succ]
              refine wpAnyN_tk (i := 10) (v := ?_) rfl (by kernel_rfl) (fun _ _ _ h => h) (Or.inl ⟨by rfl, ?_⟩) (by assumption) ?_
              rotate_left
              · intro w hSw; ((try dsimp only at hSw); go_simp; (try with_reducible rfl))
              simp only [Act.put, List.setIfInBounds_toArray, List.set_cons_zero, List.set_cons_succ]
              refine wpAnyN_tk (i := 11) (v := ?_) rfl (by kernel_rfl) (fun _ _ _ h => h) (Or.inl ⟨by rfl, ?_⟩) (by assumption) ?_
              rotate_left
              · intro w hSw; ((try dsimp only at hSw); go_simp; (try with_reducible rfl))
              simp only [Act.put, List.setIfInBounds_toArray, List.set_cons_zero, List.set_cons_succ]
              refine wpAnyN_one (i := 12) rfl (by kernel_rfl) ?_
              go_wp2_with fail
              refine (hdd.out w9 o9 st9).mono ?_; rintro e1 wz ⟨rfl, rfl⟩
              go_wp2_with fail
              refine ⟨fun _ => hS9, ?_⟩
              refine wpAnyN_tk (i := 13) (v := ?_) rfl (by kernel_rfl) (fun _ _ _ h => h) (Or.inl ⟨by rfl, ?_⟩) (by assumption) ?_
              rotate_left
              · intro w hSw; ((try dsimp only at hSw); go_simp; (try with_reducible rfl))
              simp only [Act.put, List.setIfInBounds_toArray, List.set_cons_zero, List.set_cons_succ]
              refine wpAnyN_done (by kernel_rfl) ?_ _
              have hRf := hidden (hRz.out w9 o9 st9)
              clear hS9 st9 st8 hRz hSn hdd hTx htx hdr
              go_wp2_with fail
              go_roundw
              case rel => exact ⟨j + 1, o9, s', px, Mx, .slice qa qn qc, by omega, by go_num, rfl, by omega, hRf.out.1, hRf.out.2.1, hRf.out.2.2.1, hRf.out.2.2.2.1, hRf.out.2.2.2.2, hs'H.out.1, hs'H.out.2.1, hs'H.out.2.2.1, hs'H.out.2.2.2⟩
              case measure => simp [intOf]; omega
        · subst hce
          rw [hc2]
          clear herrH hcaseH
          have hft := hidden (dfits_any (p := q.1.promised) (c := q.1.current) hql5 (show KOk q.1 by rw [← hqH.out]; exact hkH.out.next a) n h8 h400 (hfit n hHH.out))
          have cg0 := cell_of_block hbg5 0
          have cg1 := cell_of_block hbg5 1
          have cg2 := cell_of_block hbg5 2
          simp only [List.getElem?_cons_zero, List.getElem?_cons_succ] at cg0 cg1 cg2
          have hR5 := hidden (And.intro hbk5 (And.intro tbk5 (And.intro hbg5 (And.intro tbg5 (And.intro hst5 (And.intro ha5 hkl5))))))
          replace hcq := hidden hcq
          clear hc2 hfit hbk5 tbk5 hbg5 tbg5 hst5 ha5 hkl5 hql5
          go_wp2_with fail
          refine hft.out.mono ?_; rintro e1 wf ⟨vf, of, rfl, hsf, rfl⟩
          obtain ⟨hbk5, tbk5, hbg5, tbg5, hst5, ha5, hkl5⟩ := hR5.out
          have hbk5 := (hsf.block kb (lt_of_block hbk5) (nn _)).trans hbk5
          have hbg5' := (hsf.block g (lt_of_block hbg5) (nn _)).trans hbg5
          have tbk5 : (of kb).1 = E := by rw [hsf.own kb (lt_of_block (hR5.out.1))]; exact tbk5
          have tbg5 : (of g).1 = E := by rw [hsf.own g (lt_of_block hbg5)]; exact tbg5
          have hst5 := hst5.trans hsf.above0
          have ha5 := ha5.step0 hsf
          have hkl5 := hkl5.step hsf (nn _)
          have hldk := hidden (load95 (range_whole hbk5))
          obtain ⟨hso, hsb⟩ := run_store_agg (P := Try.prog) (ty := 95) (vs := [.int .u64 (s.kept.promised.toNat : Int), .int .u64 (s.kept.current.toNat : Int), .slice ka kn kc]) hbg5' rfl (by kernel_rfl) rfl
          have hsog := hidden hso
          have sg := (Step.refl (Only E) wf of).setCells g 0 [.int .u64 (s.kept.promised.toNat : Int), .int .u64 (s.kept.current.toNat : Int), .slice ka kn kc] (.inl (by show (of g).1 = E; exact tbg5))
          obtain ⟨w5, hw5⟩ : ∃ w5, wf.setCells g 0 [.int .u64 (s.kept.promised.toNat : Int), .int .u64 (s.kept.current.toNat : Int), .slice ka kn kc] = w5 := ⟨_, rfl⟩
          rw [hw5] at hsog hsb sg
          have hbk5 : w5.heap[kb]? = some (.cells [.int .u64 (s.kept.promised.toNat : Int), .int .u64 (s.kept.current.toNat : Int), .slice ka kn kc].toArray 95 (0, 0)) := by rw [← hw5, heap_setCells_other _ _ _ _ _ (Ne.symm hgk)]; exact hbk5
          have hbg5 := hsb
          have ha5 := ha5.step sg (only4 hE0 hME hED)
          have hql5 := hkl5.step sg nE0
          have hst5 := hst5.trans (sg.mono hEM)
          obtain ⟨o5, ho5⟩ : ∃ o5, of = o5 := ⟨_, rfl⟩
          rw [ho5] at tbk5 tbg5 hst5 ha5 hql5
          obtain ⟨qa, hqa⟩ : ∃ qa, ka = qa := ⟨_, rfl⟩
          obtain ⟨qn, hqn⟩ : ∃ qn, kn = qn := ⟨_, rfl⟩
          obtain ⟨qc, hqc⟩ : ∃ qc, kc = qc := ⟨_, rfl⟩
          rw [← hcq.out] at hbg5 hql5 hsog hldk hbk5
          rw [hqa, hqn, hqc] at hbg5 hql5 hsog hldk hbk5
          clear hso hsb hw5 ho5 hR5 hft hsf hbg5' sg cg0 cg1 cg2 hkl5 hqa hqn hqc
          have hld := hidden (load95 (range_whole hbg5))
          obtain ⟨hso, hsb⟩ := run_store_agg (P := Try.prog) (ty := 95) (vs := [.int .u64 (s'.kept.promised.toNat : Int), .int .u64 (s'.kept.current.toNat : Int), .slice qa qn qc]) hbk5 rfl (by kernel_rfl) rfl
          have hsoH := hidden hso
          have s6 := (Step.refl (Only E) w5 o5).setCells kb 0 [.int .u64 (s'.kept.promised.toNat : Int), .int .u64 (s'.kept.current.toNat : Int), .slice qa qn qc] (.inl (by show (o5 kb).1 = E; exact tbk5))
          obtain ⟨w6, hw6⟩ : ∃ w6, w5.setCells kb 0 [.int .u64 (s'.kept.promised.toNat : Int), .int .u64 (s'.kept.current.toNat : Int), .slice qa qn qc] = w6 := ⟨_, rfl⟩
          rw [hw6] at hsoH hsb s6
          have ha6 := ha5.step s6 (only4 hE0 hME hED)
          have hql6 := hql5.step s6 nE0
          have hst6 := hst5.trans (s6.mono hEM)
          have cA : w6.cell? ⟨b, off + j * 3, none⟩ = some (.int .u8 (a.k : Int)) := (hA.out w6 o5 hst6).1 0 _ rfl
          clear hso hw6 s6 hbk5 hbg5 tbg5 hst5 ha5 hql5
          by_cases hk4 : a.k % 5 = 4
          · have hkI : (a.k : Int) % 5 = 4 := by omega
            have hop := hidden (opens_any (Mx + 3) (by omega) hD0 hs'H.out.1 (by omega) (by rw [hs'H.out.2.2.2]; exact h400) ha6.disk)
            go_wp2_with (first
              | ((with_reducible refine lit_load_at hld.out ?_ ?_); rfl; simp only [Act.put, List.setIfInBounds_toArray, List.set_cons_zero, List.set_cons_succ])
              | ((with_reducible refine lit_store_at hsoH.out ?_ ?_ ?_); rfl; rfl; simp only [Act.put])
              | ((with_reducible refine lit_load_at hldk.out ?_ ?_); rfl; simp only [Act.put, List.setIfInBounds_toArray, List.set_cons_zero, List.set_cons_succ])
              | ((with_reducible refine lit_store_at hsog.out ?_ ?_ ?_); rfl; rfl; simp only [Act.put]))
            refine hop.out.mono ?_; rintro e w7 ⟨v7, o7, rfl, hs7, pt, rfl, ha7⟩
            have hbk7 := (hs7.block kb (lt_of_block hsb) (by rw [tbk5]; exact nAE)).trans hsb
            have tbk7 : (o7 kb).1 = E := by rw [hs7.own kb (lt_of_block hsb)]; exact tbk5
            have hql7 := hql6.step hs7 (fun h => by change Mx + 3 < 0 at h; omega)
            have hst7 := hst6.trans (hs7.mono (hab (Mx + 3) (by omega)))
            clear hs7 ha6 hsb tbk5 hql6 hst6 hop cA
            obtain ⟨T, hT⟩ : ∃ T, textM s'.kept.promised s'.kept.current s'.kept.lines = T := ⟨_, rfl⟩
            have hdr := (Step.refl Nobody w7 o7).drew
            have htx := hidden (text_is (ha7.step0 hdr) hs'H.out.2.1 hT)
            have hTx := hidden (fun (W : World) (O : Own) (st : Step Nobody w7 o7 W O) => rtext9_is (p := s'.kept.promised) (c := s'.kept.current) (hql7.step st (nn _)) (by have := hs'H.out.2.1.n; omega) hs'H.out.2.1.text hT)
            have hdd := hidden (fun (W : World) (O : Own) (st : Step Nobody w7 o7 W O) => sdead_is (ha7.step0 st) hs'H.out.1)
            have hSn := hidden (fun (W : World) (O : Own) (st : Step Nobody w7 o7 W O) => (show W.cell? ⟨kb, 0, none⟩ = some (.int .u64 (s'.kept.promised.toNat : Int)) ∧ W.cell? ⟨kb, 1, none⟩ = some (.int .u64 (s'.kept.current.toNat : Int)) ∧ W.cell? ⟨kb, 2, none⟩ = some (.slice qa qn qc) from by
              have hb := (st.block kb (lt_of_block hbk7) (nn _)).trans hbk7
              exact ⟨cell_of_block hb 0, cell_of_block hb 1, cell_of_block hb 2⟩))
            have hRz := hidden (fun (W : World) (O : Own) (st : Step Nobody w7 o7 W O) => And.intro (ha7.step0 st) (And.intro (hst7.trans st.above0) (And.intro ((st.block kb (lt_of_block hbk7) (nn _)).trans hbk7) (And.intro (show (O kb).1 = E by rw [st.own kb (lt_of_block hbk7)]; exact tbk7) (hql7.step st (nn _))))))
            clear ha7 hst7 hbk7 tbk7 hql7 hT
            go_wp2_with fail
            refine wp_region_need (fun w' => w'.cell? ⟨kb, 0, none⟩ = some (.int .u64 (s'.kept.promised.toNat : Int)) ∧ w'.cell? ⟨kb, 1, none⟩ = some (.int .u64 (s'.kept.current.toNat : Int)) ∧ w'.cell? ⟨kb, 2, none⟩ = some (.slice qa qn qc)) (fun _ => true) (by kernel_rfl) (hSn.out w7.drew o7 hdr) (fun hHeld => ?_)
            refine wpAnyN_tk (i := 0) (v := ?_) rfl (by kernel_rfl) (fun _ _ _ h => h) (Or.inl ⟨by rfl, ?_⟩) (by assumption) ?_
            rotate_left
            · intro w hSw; ((try dsimp only at hSw); go_simp; (try with_reducible rfl))
            simp only [Act.put, List.setIfInBounds_toArray, List.set_cons_zero, List.set_cons_succ]
            refine wpAnyN_tk (i := 2) (v := ?_) rfl (by kernel_rfl) (fun _ _ _ h => h) (Or.inl ⟨by rfl, ?_⟩) (by assumption) ?_
            rotate_left
            · intro w hSw; ((try dsimp only at hSw); go_simp; (try with_reducible rfl))
            simp only [Act.put, List.setIfInBounds_toArray, List.set_cons_zero, List.set_cons_succ]
            refine wpAnyN_tk (i := 3) (v := ?_) rfl (by kernel_rfl) (fun _ _ _ h => h) (Or.inl ⟨by rfl, ?_⟩) (by assumption) ?_
            rotate_left
            · intro w hSw; ((try dsimp only at hSw); go_simp; (try with_reducible rfl))
            simp only [Act.put, List.setIfInBounds_toArray, List.set_cons_zero, List.set_cons_succ]
            refine wpAnyN_tk (i := 4) (v := ?_) rfl (by kernel_rfl) (fun _ _ _ h => h) (Or.inl ⟨by rfl, ?_⟩) (by assumption) ?_
            rotate_left
            · intro w hSw; ((try dsimp only at hSw); go_simp; (try with_reducible rfl))
            simp only [Act.put, List.setIfInBounds_toArray, List.set_cons_zero, List.set_cons_succ]
            refine wpAnyN_tk (i := 5) (v := ?_) rfl (by kernel_rfl) (fun _ _ _ h => h) (Or.inl ⟨by rfl, ?_⟩) (by assumption) ?_
            rotate_left
            · intro w hSw; ((try dsimp only at hSw); go_simp; (try with_reducible rfl))
            simp only [Act.put, List.setIfInBounds_toArray, List.set_cons_zero, List.set_cons_succ]
            refine wpAnyN_tk (i := 6) (v := ?_) rfl (by kernel_rfl) (fun _ _ _ h => h) (Or.inl ⟨by rfl, ?_⟩) (by assumption) ?_
            rotate_left
            · intro w hSw; ((try dsimp only at hSw); go_simp; (try with_reducible rfl))
            simp only [Act.put, List.setIfInBounds_toArray, List.set_cons_zero, List.set_cons_succ]
            refine wpAnyN_tk (i := 7) (v := ?_) rfl (by kernel_rfl) (fun _ _ _ h => h) (Or.inl ⟨by rfl, ?_⟩) (by assumption) ?_
            rotate_left
            · intro w hSw; ((try dsimp only at hSw); go_simp; (try with_reducible rfl))
            simp only [Act.put, List.setIfInBounds_toArray, List.set_cons_zero, List.set_cons_succ]
            refine wpAnyN_one (i := 1) rfl (by kernel_rfl) ?_
            go_wp2_with fail
            refine htx.out.mono ?_; rintro e1 w8 ⟨v8, o8, rfl, hs8, rfl⟩
            have st8 := hdr.trans hs8
            have hS8 := hSn.out w8 o8 st8
            clear hHeld hs8
            go_wp2_with fail
            refine ⟨fun _ => hS8, ?_⟩
            refine wpAnyN_one (i := 8) rfl (by kernel_rfl) ?_
            go_wp2_with fail
            refine (hTx.out w8 o8 st8).mono ?_; rintro e1 w9 ⟨v9, o9, rfl, hs9, rfl⟩
            have st9 := st8.trans hs9
            have hS9 := hSn.out w9 o9 st9
            clear hS8 hs9
            go_wp2_with fail
            refine ⟨fun _ => hS9, ?_⟩
            refine wpAnyN_tk (i := 9) (v := ?_) rfl (by kernel_rfl) (fun _ _ _ h => h) (Or.inl ⟨by rfl, ?_⟩) (by assumption) ?_
            rotate_left
            · intro w hSw; ((try dsimp only at hSw); go_simp; (try with_reducible rfl))
            simp only [Act.put, List.setIfInBounds_toArray, List.set_cons_zero, List.set_cons_succ]
            refine wpAnyN_tk (i := 10) (v := ?_) rfl (by kernel_rfl) (fun _ _ _ h => h) (Or.inl ⟨by rfl, ?_⟩) (by assumption) ?_
            rotate_left
            · intro w hSw; ((try dsimp only at hSw); go_simp; (try with_reducible rfl))
            simp only [Act.put, List.setIfInBounds_toArray, List.set_cons_zero, List.set_cons_succ]
            refine wpAnyN_tk (i := 11) (v := ?_) rfl (by kernel_rfl) (fun _ _ _ h => h) (Or.inl ⟨by rfl, ?_⟩) (by assumption) ?_
            rotate_left
            · intro w hSw; ((try dsimp only at hSw); go_simp; (try with_reducible rfl))
            simp only [Act.put, List.setIfInBounds_toArray, List.set_cons_zero, List.set_cons_succ]
            refine wpAnyN_one (i := 12) rfl (by kernel_rfl) ?_
            go_wp2_with fail
            refine (hdd.out w9 o9 st9).mono ?_; rintro e1 wz ⟨rfl, rfl⟩
            go_wp2_with fail
            refine ⟨fun _ => hS9, ?_⟩
            refine wpAnyN_tk (i := 13) (v := ?_) rfl (by kernel_rfl) (fun _ _ _ h => h) (Or.inl ⟨by rfl, ?_⟩) (by assumption) ?_
            rotate_left
            · intro w hSw; ((try dsimp only at hSw); go_simp; (try with_reducible rfl))
            simp only [Act.put, List.setIfInBounds_toArray, List.set_cons_zero, List.set_cons_succ]
            refine wpAnyN_done (by kernel_rfl) ?_ _
            have hRf := hidden (hRz.out w9 o9 st9)
            clear hS9 st9 st8 hRz hSn hdd hTx htx hdr
            go_wp2_with fail
            go_roundw
            case rel => exact ⟨j + 1, o9, s', pt, Mx + 3, .slice qa qn qc, by omega, by go_num, rfl, by omega, hRf.out.1, hRf.out.2.1, hRf.out.2.2.1, hRf.out.2.2.2.1, hRf.out.2.2.2.2, hs'H.out.1, hs'H.out.2.1, hs'H.out.2.2.1, hs'H.out.2.2.2⟩
            case measure => simp [intOf]; omega
          · obtain ⟨r5, hr5⟩ : ∃ r5 : Nat, a.k % 5 = r5 := ⟨_, rfl⟩
            have hkI : (a.k : Int) % 5 = (r5 : Int) := by omega
            have hkN : ((r5 : Int) == 4) = false := by simp; omega
            have hbk7 := hsb
            have tbk7 := tbk5
            have hql7 := hql6
            have hst7 := hst6
            have ha7 := ha6
            clear hr5 hk4 ha6 hsb tbk5 hql6 hst6
            go_wp2_with (first
              | ((with_reducible refine lit_load_at hld.out ?_ ?_); rfl; simp only [Act.put, List.setIfInBounds_toArray, List.set_cons_zero, List.set_cons_succ])
              | ((with_reducible refine lit_store_at hsoH.out ?_ ?_ ?_); rfl; rfl; simp only [Act.put])
              | ((with_reducible refine lit_load_at hldk.out ?_ ?_); rfl; simp only [Act.put, List.setIfInBounds_toArray, List.set_cons_zero, List.set_cons_succ])
              | ((with_reducible refine lit_store_at hsog.out ?_ ?_ ?_); rfl; rfl; simp only [Act.put]))
            clear cA
            obtain ⟨T, hT⟩ : ∃ T, textM s'.kept.promised s'.kept.current s'.kept.lines = T := ⟨_, rfl⟩
            have hdr := (Step.refl Nobody w6 o5).drew
            have htx := hidden (text_is (ha7.step0 hdr) hs'H.out.2.1 hT)
            have hTx := hidden (fun (W : World) (O : Own) (st : Step Nobody w6 o5 W O) => rtext9_is (p := s'.kept.promised) (c := s'.kept.current) (hql7.step st (nn _)) (by have := hs'H.out.2.1.n; omega) hs'H.out.2.1.text hT)
            have hdd := hidden (fun (W : World) (O : Own) (st : Step Nobody w6 o5 W O) => sdead_is (ha7.step0 st) hs'H.out.1)
            have hSn := hidden (fun (W : World) (O : Own) (st : Step Nobody w6 o5 W O) => (show W.cell? ⟨kb, 0, none⟩ = some (.int .u64 (s'.kept.promised.toNat : Int)) ∧ W.cell? ⟨kb, 1, none⟩ = some (.int .u64 (s'.kept.current.toNat : Int)) ∧ W.cell? ⟨kb, 2, none⟩ = some (.slice qa qn qc) from by
              have hb := (st.block kb (lt_of_block hbk7) (nn _)).trans hbk7
              exact ⟨cell_of_block hb 0, cell_of_block hb 1, cell_of_block hb 2⟩))
            have hRz := hidden (fun (W : World) (O : Own) (st : Step Nobody w6 o5 W O) => And.intro (ha7.step0 st) (And.intro (hst7.trans st.above0) (And.intro ((st.block kb (lt_of_block hbk7) (nn _)).trans hbk7) (And.intro (show (O kb).1 = E by rw [st.own kb (lt_of_block hbk7)]; exact tbk7) (hql7.step st (nn _))))))
            clear ha7 hst7 hbk7 tbk7 hql7 hT
            go_wp2_with fail
            refine wp_region_need (fun w' => w'.cell? ⟨kb, 0, none⟩ = some (.int .u64 (s'.kept.promised.toNat : Int)) ∧ w'.cell? ⟨kb, 1, none⟩ = some (.int .u64 (s'.kept.current.toNat : Int)) ∧ w'.cell? ⟨kb, 2, none⟩ = some (.slice qa qn qc)) (fun _ => true) (by kernel_rfl) (hSn.out w6.drew o5 hdr) (fun hHeld => ?_)
            refine wpAnyN_tk (i := 0) (v := ?_) rfl (by kernel_rfl) (fun _ _ _ h => h) (Or.inl ⟨by rfl, ?_⟩) (by assumption) ?_
            rotate_left
            · intro w hSw; ((try dsimp only at hSw); go_simp; (try with_reducible rfl))
            simp only [Act.put, List.setIfInBounds_toArray, List.set_cons_zero, List.set_cons_succ]
            refine wpAnyN_tk (i := 2) (v := ?_) rfl (by kernel_rfl) (fun _ _ _ h => h) (Or.inl ⟨by rfl, ?_⟩) (by assumption) ?_
            rotate_left
            · intro w hSw; ((try dsimp only at hSw); go_simp; (try with_reducible rfl))
            simp only [Act.put, List.setIfInBounds_toArray, List.set_cons_zero, List.set_cons_succ]
            refine wpAnyN_tk (i := 3) (v := ?_) rfl (by kernel_rfl) (fun _ _ _ h => h) (Or.inl ⟨by rfl, ?_⟩) (by assumption) ?_
            rotate_left
            · intro w hSw; ((try dsimp only at hSw); go_simp; (try with_reducible rfl))
            simp only [Act.put, List.setIfInBounds_toArray, List.set_cons_zero, List.set_cons_succ]
            refine wpAnyN_tk (i := 4) (v := ?_) rfl (by kernel_rfl) (fun _ _ _ h => h) (Or.inl ⟨by rfl, ?_⟩) (by assumption) ?_
            rotate_left
            · intro w hSw; ((try dsimp only at hSw); go_simp; (try with_reducible rfl))
            simp only [Act.put, List.setIfInBounds_toArray, List.set_cons_zero, List.set_cons_succ]
            refine wpAnyN_tk (i := 5) (v := ?_) rfl (by kernel_rfl) (fun _ _ _ h => h) (Or.inl ⟨by rfl, ?_⟩) (by assumption) ?_
            rotate_left
            · intro w hSw; ((try dsimp only at hSw); go_simp; (try with_reducible rfl))
            simp only [Act.put, List.setIfInBounds_toArray, List.set_cons_zero, List.set_cons_succ]
            refine wpAnyN_tk (i := 6) (v := ?_) rfl (by kernel_rfl) (fun _ _ _ h => h) (Or.inl ⟨by rfl, ?_⟩) (by assumption) ?_
            rotate_left
            · intro w hSw; ((try dsimp only at hSw); go_simp; (try with_reducible rfl))
            simp only [Act.put, List.setIfInBounds_toArray, List.set_cons_zero, List.set_cons_succ]
            refine wpAnyN_tk (i := 7) (v := ?_) rfl (by kernel_rfl) (fun _ _ _ h => h) (Or.inl ⟨by rfl, ?_⟩) (by assumption) ?_
            rotate_left
            · intro w hSw; ((try dsimp only at hSw); go_simp; (try with_reducible rfl))
            simp only [Act.put, List.setIfInBounds_toArray, List.set_cons_zero, List.set_cons_succ]
            refine wpAnyN_one (i := 1) rfl (by kernel_rfl) ?_
            go_wp2_with fail
            refine htx.out.mono ?_; rintro e1 w8 ⟨v8, o8, rfl, hs8, rfl⟩
            have st8 := hdr.trans hs8
            have hS8 := hSn.out w8 o8 st8
            clear hHeld hs8
            go_wp2_with fail
            refine ⟨fun _ => hS8, ?_⟩
            refine wpAnyN_one (i := 8) rfl (by kernel_rfl) ?_
            go_wp2_with fail
            refine (hTx.out w8 o8 st8).mono ?_; rintro e1 w9 ⟨v9, o9, rfl, hs9, rfl⟩
            have st9 := st8.trans hs9
            have hS9 := hSn.out w9 o9 st9
            clear hS8 hs9
            go_wp2_with fail
            refine ⟨fun _ => hS9, ?_⟩
            refine wpAnyN_tk (i := 9) (v := ?_) rfl (by kernel_rfl) (fun _ _ _ h => h) (Or.inl ⟨by rfl, ?_⟩) (by assumption) ?_
            rotate_left
            · intro w hSw; ((try dsimp only at hSw); go_simp; (try with_reducible rfl))
            simp only [Act.put, List.setIfInBounds_toArray, List.set_cons_zero, List.set_cons_succ]
            refine wpAnyN_tk (i := 10) (v := ?_) rfl (by kernel_rfl) (fun _ _ _ h => h) (Or.inl ⟨by rfl, ?_⟩) (by assumption) ?_
            rotate_left
            · intro w hSw; ((try dsimp only at hSw); go_simp; (try with_reducible rfl))
            simp only [Act.put, List.setIfInBounds_toArray, List.set_cons_zero, List.set_cons_succ]
            refine wpAnyN_tk (i := 11) (v := ?_) rfl (by kernel_rfl) (fun _ _ _ h => h) (Or.inl ⟨by rfl, ?_⟩) (by assumption) ?_
            rotate_left
            · intro w hSw; ((try dsimp only at hSw); go_simp; (try with_reducible rfl))
            simp only [Act.put, List.setIfInBounds_toArray, List.set_cons_zero, List.set_cons_succ]
            refine wpAnyN_one (i := 12) rfl (by kernel_rfl) ?_
            go_wp2_with fail
            refine (hdd.out w9 o9 st9).mono ?_; rintro e1 wz ⟨rfl, rfl⟩
            go_wp2_with fail
            refine ⟨fun _ => hS9, ?_⟩
            refine wpAnyN_tk (i := 13) (v := ?_) rfl (by kernel_rfl) (fun _ _ _ h => h) (Or.inl ⟨by rfl, ?_⟩) (by assumption) ?_
            rotate_left
            · intro w hSw; ((try dsimp only at hSw); go_simp; (try with_reducible rfl))
            simp only [Act.put, List.setIfInBounds_toArray, List.set_cons_zero, List.set_cons_succ]
            refine wpAnyN_done (by kernel_rfl) ?_ _
            have hRf := hidden (hRz.out w9 o9 st9)
            clear hS9 st9 st8 hRz hSn hdd hTx htx hdr
            go_wp2_with fail
            go_roundw
            case rel => exact ⟨j + 1, o9, s', px, Mx, .slice qa qn qc, by omega, by go_num, rfl, by omega, hRf.out.1, hRf.out.2.1, hRf.out.2.2.1, hRf.out.2.2.2.1, hRf.out.2.2.2.2, hs'H.out.1, hs'H.out.2.1, hs'H.out.2.2.1, hs'H.out.2.2.2⟩
            case measure => simp [intOf]; omega
      · obtain rfl : j = N := by omega
        have hke := keeps_any wr oj
        go_wp2_with fail
        refine hke.mono ?_; rintro e Wc ⟨v, oc, rfl, hs, rfl⟩
        have hst := hst.trans (hs.above0 (M := M))
        clear hs hke
        go_wp2_with fail
        go_ret
        exact ⟨_, oc, rfl, hst.noneAbove hM, rfl⟩
set_option maxRecDepth 100000 in
theorem storePlays_out {w : World} {o : Own} (n : Int) (hn : n < 1 ∨ 400 < n) (v : Value) : Calls Try.prog 14 #[.int .i64 n, v] w (Ret Nobody w o fun v _ _ => v = .bool true) := by
  by_cases h8 : n < 1
  · clear hn
    go_enter Try.func14, Try.ntmps14
    go_wp2_with fail
    go_ret
    exact ⟨_, o, rfl, Step.refl _ _ _, rfl⟩
  · have h2 : 400 < n := by omega
    clear hn
    go_enter Try.func14, Try.ntmps14
    go_wp2_with fail
    go_ret
    exact ⟨_, o, rfl, Step.refl _ _ _, rfl⟩
set_option maxRecDepth 100000 in
set_option maxHeartbeats 3200000 in
theorem storePlays_few {w : World} {o : Own} (n : Nat) (h1 : 1 ≤ n) (h8 : n < 8) {v : Value} {l : List ActM} (hl : Acts w o v l) :
    Calls Try.prog 14 #[.int .i64 (n : Int), v] w (Ret Nobody w o fun v _ _ => v = .bool true) := by
  obtain ⟨M, -, hM⟩ := tag_bound o 0 w.heap.size
  obtain ⟨D, hD⟩ : ∃ D, D = M + 2 := ⟨_, rfl⟩
  obtain ⟨aa, ac, rfl⟩ := hl.form
  have hgr := great_any hl
  have h8I : (n : Int) < 8 := by omega
  have h1I : ¬ (n : Int) < 1 := by omega
  have h4I : ¬ (400 : Int) < (n : Int) := by omega
  generalize l.length = N at *
  clear hl hD
  go_enter Try.func14, Try.ntmps14
  go_wp2_with fail
  refine hgr.mono ?_; rintro e wg ⟨v, og, rfl, hs, r, rfl, hfew⟩
  have hst := hs
  clear hs hgr hfew
  cases r with
  | true =>
    go_wp2_with fail
    go_ret
    exact ⟨_, og, rfl, hst, rfl⟩
  | false =>
    have hnew := new_ok n wg og D (by omega) (by omega)
    go_wp2_with fail
    refine hnew.mono ?_; rintro e W1 ⟨v, o1, rfl, hs, pd, -, rfl, hd⟩
    have hst := hst.trans hs
    have hop := sopen_few hd rfl (by simp [DiskM.new]; omega)
    clear hnew hs hd
    go_wp2_with fail
    refine hop.mono ?_; rintro e W2 ⟨v, o2, rfl, hs, rfl⟩
    have hst := hst.trans hs
    have hke := keeps_any W2 o2
    clear hop hs
    go_wp2_with fail
    refine hke.mono ?_; rintro e Wc ⟨v, oc, rfl, hs, rfl⟩
    have hst := hst.trans hs
    clear hs hke
    go_wp2_with fail
    go_ret
    exact ⟨_, oc, rfl, hst, rfl⟩
theorem storePlays_walk {w : World} {o : Own} (n : Int) {v : Value} {l : List ActM} (hl : Acts w o v l) :
    Calls Try.prog 14 #[.int .i64 n, v] w (Ret Nobody w o fun v _ _ => v = .bool true) := by
  by_cases h : n < 1 ∨ 400 < n
  · exact storePlays_out n h v
  · obtain ⟨m, rfl⟩ : ∃ m : Nat, n = m := ⟨n.toNat, by omega⟩
    by_cases h8 : m < 8
    · exact storePlays_few m (by omega) h8 hl
    · exact storePlays_main m (by omega) (by omega) hl
end Go.Proofs.YtfgggkheadfiaaaR
