/- The statement LogPower: whenever the power goes; the walk. -/
import Derived.Test.YtfgggkheadfiaaaRLaw08h
namespace Go.Proofs.YtfgggkheadfiaaaR
open Go Go.RowKit
attribute [local go_sem ↓] Go.wp_at_zero Go.wp_at_succ

set_option maxRecDepth 100000 in
set_option maxHeartbeats 1600000 in
theorem logPower_many {w : World} {o : Own} (n : Int) {v fv : Value} {l : List Try8} {fates : List Int} (hl : Tries8 w o v l) (hf : Ints w o fv fates) (hm : 40 < l.length ∨ 60 < fates.length) :
    Calls Try.prog 13 #[.int .u8 n, v, fv] w (Ret Nobody w o fun v _ _ => v = .bool true) := by
  obtain ⟨fa, fc, rfl⟩ := slc_form hf
  obtain ⟨aa, ac, rfl⟩ := hl.form
  have hwk := wakes8_any w o
  clear hl hf
  by_cases h1 : 40 < l.length
  · have h1I : (40 : Int) < (l.length : Int) := by omega
    clear hm
    generalize l.length = x at *
    generalize fates.length = y at *
    go_enter Try.func13, Try.ntmps13
    go_wp2_with fail
    refine hwk.mono ?_; rintro e wc ⟨v, oc, rfl, hs, rfl⟩
    go_wp2_with fail
    go_ret
    exact ⟨_, oc, rfl, hs, rfl⟩
  · have h1I : ¬ (40 : Int) < (l.length : Int) := by omega
    have h2I : (60 : Int) < (fates.length : Int) := by omega
    clear hm
    generalize l.length = x at *
    generalize fates.length = y at *
    go_enter Try.func13, Try.ntmps13
    go_wp2_with fail
    refine hwk.mono ?_; rintro e wc ⟨v, oc, rfl, hs, rfl⟩
    go_wp2_with fail
    go_ret
    exact ⟨_, oc, rfl, hs, rfl⟩

set_option maxRecDepth 100000 in
set_option maxHeartbeats 12800000 in
theorem logPower_main {w : World} {o : Own} (n : Int) (hn0 : 0 ≤ n) (hn1 : n ≤ 255) {v fv : Value} {l : List Try8} {fates : List Int} (hl : Tries8 w o v l) (hf : Ints w o fv fates) (hfw : ∀ a ∈ fates, -9223372036854775808 ≤ a ∧ a ≤ 9223372036854775807)
    (hm1 : ¬ 40 < l.length) (hm2 : ¬ 60 < fates.length) : Calls Try.prog 13 #[.int .u8 n, v, fv] w (Ret Nobody w o fun v _ _ => v = .bool true) := by
  obtain ⟨M, -, hM⟩ := tag_bound o 0 w.heap.size
  obtain ⟨D, hD⟩ : ∃ D, D = M + 1 := ⟨_, rfl⟩
  have hD0 : D ≠ 0 := by omega
  have mD : M < D := by omega
  have hT0 : ¬ Above M 0 := fun h => by change M < 0 at h; omega
  have nD0 : ¬ Only D 0 := fun h => by change _ = _ at h; omega
  have hpick : ∀ L, ∃ L', M < L' ∧ L' ≠ D ∧ L' ≠ L := fun L => by
    by_cases h : L = M + 2
    · exact ⟨M + 3, by omega, by omega, by omega⟩
    · exact ⟨M + 2, by omega, by omega, by omega⟩
  obtain ⟨L0, mL0, hLD0, -⟩ := hpick 0
  have hL00 : L0 ≠ 0 := by omega
  clear hD
  have nn : ∀ k, ¬ Nobody k := fun _ h => h
  obtain ⟨fa, fc, rfl⟩ := slc_form hf
  obtain ⟨aa, ac, rfl⟩ := hl.form
  obtain ⟨N, hN0⟩ : ∃ N : Nat, n = N := ⟨n.toNat, by omega⟩
  subst hN0
  obtain ⟨k, hk⟩ : ∃ k, 2 + N % 19 = k := ⟨_, rfl⟩
  have hki : 2 + (N : Int) % 19 = (k : Int) := by omega
  have hk2 : 2 ≤ k := by omega
  have hk20 : k ≤ 20 := by omega
  have hmade := made_is (w := w) (o := o) hL00 hD0 hLD0 k hk2 (by omega)
  obtain ⟨ll, hll⟩ : ∃ ll, l.length = ll := ⟨_, rfl⟩
  obtain ⟨fl, hfl⟩ : ∃ fl, fates.length = fl := ⟨_, rfl⟩
  rw [hll] at hl hm1 ⊢
  rw [hfl] at hm2
  have hfl' : fates.length = fl := hfl
  rw [hfl] at hf ⊢
  have hlH := hidden hl
  have hllH := hidden hll
  have hfH := hidden hf
  have hfwH := hidden hfw
  have hkiH := hidden hki
  have hm1I : ¬ (40 : Int) < (ll : Int) := by omega
  have hm2I : ¬ (60 : Int) < (fl : Int) := by omega
  have hflH := hidden hfl'
  rw [← hki] at hmade
  clear hl hf hfw hki hk hm1 hm2 hll hfl hfl'
  go_enter Try.func13, Try.ntmps13
  go_wp2_with fail
  refine hmade.mono ?_; rintro e wc ⟨v, oc, rfl, hs, pd, p, -, -, rfl, hld⟩
  have hst := hs.above1 mL0
  clear hmade hs
  go_wp2_with fail
  go_loopw [9, 10, 11] (fun xv kv i wr => ∃ (j : Nat) (oj : Own) (L p : Nat) (s : LogM × DiskM), j ≤ ll ∧ i = .int .i64 j ∧ xv = .pointer (some ⟨p, 0, none⟩) ∧ LD wr oj L D p pd s ∧ Step (Above M) w o wr oj ∧ M < L ∧ L ≠ D ∧
      Slc wr oj kv s.1.records.length (tvs s.1.records) ∧ LogM.Good (257 * j) s ∧ s.2.left < 0 ∧ s.1.n = k ∧ s.1.first = 0 ∧ s.2.pages.length = k)
    (fun _ _ i _ => ll - (intOf i).toNat)
  case atStart => exact ⟨0, oc, L0, p, _, Nat.zero_le _, rfl, rfl, hld, hst, mL0, hLD0, .inl ⟨⟨_, _, rfl⟩, rfl, rfl⟩, LogM.good_new (by omega) hk2 (by omega), by show (-1 : Int) < 0; omega, rfl, rfl, by simp [DiskM.new]⟩
  case round =>
    clear hld hst hL00 hLD0 mL0
    obtain ⟨j, oj, L, px, s, hj, rfl, rfl, hld, hst, mL, hLD, hkp, hG', hle', hn', hf0', hpl'⟩ := hrel
    have hG := hidden (show LogM.Good (257 * j) s from hG')
    have hle := hidden (show s.2.left < 0 from hle')
    have hn := hidden (show s.1.n = k from hn')
    have hf0 := hidden (show s.1.first = 0 from hf0')
    have hpl := hidden (show s.2.pages.length = k from hpl')
    clear hG' hle' hn' hf0' hpl'
    have hL0 : L ≠ 0 := by omega
    have nL0 : ¬ In L D 0 := fun h => by rcases h with h | h <;> omega
    have oL0 : ¬ Only L 0 := fun h => by change _ = _ at h; omega
    have nDL : ¬ Only D L := fun h => by change _ = _ at h; omega
    obtain ⟨rl, hrl⟩ : ∃ rl, s.1.records.length = rl := ⟨_, rfl⟩
    rw [hrl] at hkp
    have hrlH := hidden hrl
    have hrl2 : rl ≤ 2000 := by
      obtain ⟨_, _, hw3, _, hw5, hw6, _⟩ := hld.1.wf
      omega
    obtain ⟨ka, kc, rfl⟩ := slc_form hkp
    have hkpH := hidden hkp
    clear hrl hkp
    by_cases hlt : j < ll
    · obtain ⟨bq, off, haE, -, -, hok, -⟩ := (hlH.out.step hst hT0).at j (by rw [hllH.out]; exact hlt)
      subst haE
      have hrg := (hlH.out.step hst hT0).range j (by rw [hllH.out]; exact hlt)
      obtain ⟨t, ht⟩ : ∃ t : Try8, l[j]'(by rw [hllH.out]; exact hlt) = t := ⟨_, rfl⟩
      rw [ht] at hok hrg
      obtain ⟨rs, tb, tn, tf⟩ := t
      obtain ⟨⟨hx0, hx1⟩, hy0, hy1⟩ := hok
      simp only at hx0 hx1 hy0 hy1
      have hld80 := hidden (load80 hrg)
      have hal := hidden (run_alloc_zero (P := Try.prog) wr 80 _ zc80)
      have hsw := setCells_alloc_whole wr #[.bool false, .int .u8 0, .int .u16 0, .int .u8 0] 80 (Try8.cells ⟨rs, tb, tn, tf⟩) rfl
      obtain ⟨hso, -⟩ := run_store_agg (P := Try.prog) (ty := 80) (vs := Try8.cells ⟨rs, tb, tn, tf⟩) (heap_alloc_new wr (.cells [.bool false, .int .u8 0, .int .u16 0, .int .u8 0].toArray 80)) rfl (by kernel_rfl) rfl
      rw [hsw] at hso
      have hsoH := hidden hso
      have hsa := (Step.refl Nobody wr oj).alloc (.cells (Try8.cells ⟨rs, tb, tn, tf⟩).toArray 80) (0, 0)
      have hab : (wr.alloc (.cells (Try8.cells ⟨rs, tb, tn, tf⟩).toArray 80)).heap[wr.heap.size]? = some (.cells (Try8.cells ⟨rs, tb, tn, tf⟩).toArray 80 (0, 0)) := heap_alloc_new wr _
      have hao : tagAt oj wr.heap.size (0, 0) wr.heap.size = (0, 0) := tagAt_same _ _ _
      have hld := hld.step hsa (nn _) (nn _) (nn _)
      have hkp := hkpH.out.step hsa (nn _)
      have hst := hst.trans hsa.above0
      have hkpH := hidden hkp
      clear hsw hso hrg ht hsa hkp
      obtain ⟨ab, habE⟩ : ∃ ab, wr.heap.size = ab := ⟨_, rfl⟩
      have hszw := hst.size
      generalize wr.alloc (.cells (Try8.cells ⟨rs, tb, tn, tf⟩).toArray 80) = W1 at *
      rw [habE] at hab hao hld hkpH hst
      generalize tagAt oj ab (0, 0) = O1 at *
      have habEH := hidden habE
      have ca1 : W1.cell? ⟨ab, 1, none⟩ = some (.int .u8 (tb.toNat : Int)) := cell_of_block hab 1
      have ca2 : W1.cell? ⟨ab, 2, none⟩ = some (.int .u16 tn) := cell_of_block hab 2
      rw [← habE] at ca1 ca2
      clear habE
      go_wp2_with (first
        | ((with_reducible apply lit_load); exact hld80.out; simp only [Act.put, List.setIfInBounds_toArray, List.set_cons_zero, List.set_cons_succ])
        | ((with_reducible apply lit_alloc); exact hal.out; simp only [Act.put, List.setIfInBounds_toArray, List.set_cons_zero, List.set_cons_succ])
        | ((with_reducible apply lit_store); exact hsoH.out; simp only [Act.put]))
      rw [habEH.out]
      have hby := bytes8_any (.int .u8 0) tb tn ⟨hx0, hx1⟩ (.int .i64 0) W1 O1
      refine hby.mono ?_; rintro e w1 ⟨v1, o1, rfl, hs, g, rfl, hb⟩
      have hab1 := (hs.block _ (lt_of_block hab) (nn _)).trans hab
      have hao1 := (hs.own _ (lt_of_block hab)).trans hao
      obtain ⟨q, hq⟩ : ∃ q, (tn % 3000).toNat = q := ⟨_, rfl⟩
      have hq3 : q ≤ 2999 := by omega
      rw [hq] at hb ⊢
      obtain ⟨tx, htx⟩ : ∃ tx, fillM tb q = tx := ⟨_, rfl⟩
      have htl : tx.length = q := by rw [← htx, length_fillM]
      rw [htx] at hb
      have hcap : capLe (.slice (some ⟨g, 0, none⟩) q q) := fun a n c h => by cases h; omega
      have hld := hld.step hs (nn _) (nn _) (nn _)
      have hkp := hkpH.out.step hs (nn _)
      have hst := hst.trans hs.above0
      have hkpH := hidden hkp
      have hbH := hidden hb
      have hab1H := hidden hab1
      clear hab hao hq htx hb hby hs ca1 ca2 hkp hab1 hsoH hal hld80 habEH
      go_wp2_with fail
      refine wp_region_need (fun _ => True) (fun _ => true) (by kernel_rfl) trivial (fun hHeld => ?_)
      refine wpAnyN_take (i := 1) (v := ?_) rfl (by kernel_rfl) (by kernel_rfl) (by kernel_rfl) (by kernel_rfl) (fun _ _ _ h => h) (Or.inl ⟨by rfl, ?_⟩) (by assumption) ?_
      rotate_left
      · intro w hSw; ((try dsimp only at hSw); go_simp; (try with_reducible rfl))
      simp only [Act.put, List.setIfInBounds_toArray, List.set_cons_zero, List.set_cons_succ]
      refine wpAnyN_take (i := 3) (v := ?_) rfl (by kernel_rfl) (by kernel_rfl) (by kernel_rfl) (by kernel_rfl) (fun _ _ _ h => h) (Or.inl ⟨by rfl, ?_⟩) (by assumption) ?_
      rotate_left
      · intro w hSw; ((try dsimp only at hSw); go_simp; (try with_reducible rfl))
      simp only [Act.put, List.setIfInBounds_toArray, List.set_cons_zero, List.set_cons_succ]
      have hdr := (Step.refl Nobody w1 o1).drew
      refine wpAnyN_midlC (fuel := 2) [0, 2, 4, 5] [55, 57, 59, 60] [_, _, _, _] Nobody (fun _ w' o' => Step Nobody w1.drew o1 w' o')
        (fun kk u w' o' => match kk with
          | 0 => ∃ g0, u = .slice (some ⟨g0, 0, none⟩) 0 0
          | 1 => (rl = 0 ∧ ∃ g0, u = .slice (some ⟨g0, 0, none⟩) 0 0) ∨ (0 < rl ∧ w'.ownsRow w1.heap.size 9 1 u rl (tvs s.1.records))
          | 2 => u = .string ⟨tx.toArray⟩
          | _ => ∃ h, u = .slice (some ⟨h, 0, none⟩) 1 1 ∧ w'.heap[h]? = some (.cells [Value.string ⟨tx.toArray⟩].toArray 9 (0, 0))) rfl (by kernel_rfl)
        (fun kk u w o w' o' h hs => by
          match kk with
          | 0 => exact h
          | 1 =>
            rcases h with h | ⟨h0, h⟩
            · exact .inl h
            · exact .inr ⟨h0, ownsRow_same h fun q hq => hs.block q (h.lt q hq).2 (nn _)⟩
          | 2 => exact h
          | kk + 3 =>
            obtain ⟨h0, rfl, hh⟩ := h
            exact ⟨h0, rfl, by rw [hs.block h0 (lt_of_block hh) (nn _)]; exact hh⟩) [u55, u57, u59, u60] rfl rfl (Step.refl _ _ _) ⟨?_, ?_, ?_, ?_, trivial⟩ ?_
      · intro sb us w2 o2 hsl hul hsk hdep hJ hR
        obtain ⟨u0, u1, u2, u3, rfl⟩ := len4 hul
        simp only [Act.puts, Act.put, List.setIfInBounds_toArray, List.set_cons_zero, List.set_cons_succ]
        go_wp2_with fail
        exact ⟨_, _, rfl, (Step.refl Nobody w2 o2).alloc _ (0, 0), hJ.trans ((Step.refl Nobody w2 o2).alloc _ (0, 0)), ⟨_, rfl⟩, fun _ => trivial⟩
      · intro sb us w2 o2 hsl hul hsk hdep hJ hR
        obtain ⟨u0, u1, u2, u3, rfl⟩ := len4 hul
        simp only [Act.puts, Act.put, List.setIfInBounds_toArray, List.set_cons_zero, List.set_cons_succ]
        have hu : ∃ g0, u0 = .slice (some ⟨g0, 0, none⟩) 0 0 := hR 0 (hdep 0 0 rfl (by kernel_rfl))
        obtain ⟨g0, rfl⟩ := hu
        have hkq := (hkpH.out.step hdr (nn _)).step hJ (nn _)
        rcases hkq with ⟨⟨xa, xc, hxv⟩, h0, -⟩ | ⟨xb, xo, xc, hxv, z1, z2, z3, z4, z5⟩
        · subst h0
          have hrn := run_append_none (P := Try.prog) w2 41 41 9 1 Try.underlying41 (by kernel_rfl) (some ⟨g0, 0, none⟩) ka 0 0 kc (Nat.le_refl _) (by omega)
          refine lit_append hrn ?_
          refine wpList_nil ?_
          exact ⟨_, o2, rfl, Step.refl _ _ _, hJ, .inl ⟨rfl, _, rfl⟩, fun _ => trivial⟩
        · simp only [Value.slice.injEq, true_and] at hxv
          obtain ⟨hxa, hxc⟩ := hxv
          by_cases h0 : rl = 0
          · subst h0
            have hrn := run_append_none (P := Try.prog) w2 41 41 9 1 Try.underlying41 (by kernel_rfl) (some ⟨g0, 0, none⟩) ka 0 0 kc (Nat.le_refl _) (by omega)
            refine lit_append hrn ?_
            refine wpList_nil ?_
            exact ⟨_, o2, rfl, Step.refl _ _ _, hJ, .inl ⟨rfl, _, rfl⟩, fun _ => trivial⟩
          · obtain ⟨cp, w', hrn, hown, hbel⟩ := append_empty (P := Try.prog) w2 41 41 9 Try.underlying41 inf9 rfl (some ⟨g0, 0, none⟩) xb xo rl kc (tvs s.1.records) (by rw [length_tvs, hrlH.out]; omega) z5 (one_tvs _) (by omega) (by omega) (by omega)
            rw [← hxa] at hrn
            refine lit_append hrn ?_
            refine wpList_nil ?_
            refine ⟨_, extT w2 o2 (0, 0), rfl, Step.ofBelow hbel _, hJ.trans (Step.ofBelow hbel _), .inr ⟨by omega, ownsRow_low hown hJ.size⟩, fun _ => trivial⟩
      · intro sb us w2 o2 hsl hul hsk hdep hJ hR
        obtain ⟨u0, u1, u2, u3, rfl⟩ := len4 hul
        simp only [Act.puts, Act.put, List.setIfInBounds_toArray, List.set_cons_zero, List.set_cons_succ]
        have hcv := conv_string ((hbH.out.step hdr (nn _)).step hJ (nn _))
        refine lit_convert hcv ?_
        refine wpList_nil ?_
        exact ⟨_, o2, rfl, Step.refl _ _ _, hJ, rfl, fun _ => trivial⟩
      · intro sb us w2 o2 hsl hul hsk hdep hJ hR
        obtain ⟨u0, u1, u2, u3, rfl⟩ := len4 hul
        simp only [Act.puts, Act.put, List.setIfInBounds_toArray, List.set_cons_zero, List.set_cons_succ]
        have hu : u2 = .string ⟨tx.toArray⟩ := hR 2 (hdep 2 4 rfl (by kernel_rfl))
        subst hu
        go_wp2_with fail
        exact ⟨_, _, rfl, (Step.refl Nobody w2 o2).alloc _ (0, 0), hJ.trans ((Step.refl Nobody w2 o2).alloc _ (0, 0)), ⟨_, rfl, heap_alloc_new w2 _⟩, fun _ => trivial⟩
      intro us w2 o2 hul hJ hR
      obtain ⟨u0, u1, u2, u3, rfl⟩ := len4 hul
      simp only [Act.puts, Act.put, List.setIfInBounds_toArray, List.set_cons_zero, List.set_cons_succ]
      have r1 : (rl = 0 ∧ ∃ g0, u1 = .slice (some ⟨g0, 0, none⟩) 0 0) ∨ (0 < rl ∧ w2.ownsRow w1.heap.size 9 1 u1 rl (tvs s.1.records)) := hR 1 (by simp)
      have r3 : ∃ h, u3 = .slice (some ⟨h, 0, none⟩) 1 1 ∧ w2.heap[h]? = some (.cells [Value.string ⟨tx.toArray⟩].toArray 9 (0, 0)) := hR 3 (by simp)
      obtain ⟨h3, rfl, hh3⟩ := r3
      have hJb : Below w1.heap.size w1 w2 := (hdr.trans hJ).below
      have key : ∃ nv w3, (Builtin.append_ #[41, 41] 41 #[u1, .slice (some ⟨h3, 0, none⟩) 1 1]).run Try.prog w2 = .ok nv w3 ∧ w3.ownsRow w1.heap.size 9 1 nv (rl + 1) (tvs (s.1.records ++ [tx])) ∧ Below w1.heap.size w1 w3 := by
        rcases r1 with ⟨h0, g0, rfl⟩ | ⟨h0, hown⟩
        · obtain ⟨cp, w', hrn, hown, hbel⟩ := append_empty (P := Try.prog) w2 41 41 9 Try.underlying41 inf9 rfl (some ⟨g0, 0, none⟩) h3 0 1 1 [Value.string ⟨tx.toArray⟩] rfl (range_whole hh3) (one_cons rfl (by simp)) (by omega) (by omega) (by omega)
          have hr0 : s.1.records = [] := List.eq_nil_of_length_eq_zero (by rw [hrlH.out, h0])
          refine ⟨_, w', hrn, ?_, hJb.trans (Below.mono hbel hJb.size)⟩
          rw [hr0, h0]
          exact ownsRow_low hown hJb.size
        · obtain ⟨g, cap, w', hrn, hown3, hgrow, -, -⟩ := run_append_row (P := Try.prog) w2 41 41 9 Try.underlying41 inf9 rfl (by omega) hJb.size u1 rl (tvs s.1.records) hown h3 0 1 1
            [Value.string ⟨tx.toArray⟩] rfl (range_whole hh3) (one_cons rfl (by simp)) (by omega) (by omega) (by omega)
          refine ⟨_, w', hrn, ?_, hJb.grown hgrow hJb.size (fun q hq => (hown.lt q hq).1)⟩
          have : tvs (s.1.records ++ [tx]) = tvs s.1.records ++ [Value.string ⟨tx.toArray⟩] := by simp [tvs]
          rw [this]; exact hown3
      obtain ⟨nv, w3, hrun, hown, hbel⟩ := key
      have hs3 : Step Nobody w1 o1 w3 (extT w1 o1 (0, 0)) := Step.ofBelow hbel _
      have hnx : Slc w3 (extT w1 o1 (0, 0)) nv (rl + 1) (tvs (s.1.records ++ [tx])) := own_slc hown (fun q hq => by rw [extT_new (hown.lt q hq).1])
      generalize extT w1 o1 (0, 0) = o3 at *
      have hld := hld.step hs3 (nn _) (nn _) (nn _)
      have hkp := hkpH.out.step hs3 (nn _)
      have hst := hst.trans hs3.above0
      have hb := hbH.out.step hs3 (nn _)
      have hab3 := (hs3.block _ (lt_of_block hab1H.out) (nn _)).trans hab1H.out
      have hao3 := (hs3.own _ (lt_of_block hab1H.out)).trans hao1
      obtain ⟨na, nc, rfl⟩ := own_form hown
      have hrunH := hidden hrun
      have hkpH := hidden hkp
      have hnxH := hidden hnx
      have hbH := hidden hb
      have habH := hidden hab3
      clear hrun hown hbel hs3 hnx hkp hb hab3 hab1H hJb r1 hh3 hR hJ hdr hul hHeld
      refine wpAnyN_one (i := 6) rfl (by kernel_rfl) ?_
      refine lit_append hrunH.out ?_
      refine wpList_nil ?_
      refine ⟨fun _ => trivial, ?_⟩
      simp only [Act.put, List.setIfInBounds_toArray, List.set_cons_zero, List.set_cons_succ]
      clear hrunH
      refine wpAnyN_one (i := 7) rfl (by kernel_rfl) ?_
      go_wp2_with fail
      refine ⟨fun _ => trivial, ?_⟩
      refine wpAnyN_done (by kernel_rfl) ?_ _
      have ca0 : w3.cell? ⟨ab, 0, none⟩ = some (.bool rs) := cell_of_block habH.out 0
      have ca3 : w3.cell? ⟨ab, 3, none⟩ = some (.int .u8 tf) := cell_of_block habH.out 3
      cases rs with
      | false =>
        by_cases hfz : tf ≤ 60
        · have hnx : Slc w3 o3 (.slice na (rl + 1) nc) (s.1.records ++ [tx]).length (tvs (s.1.records ++ [tx])) := by rw [List.length_append, hrlH.out]; exact hnxH.out
          go_wp2_with fail
          refine (fuse_any hld.2 tf (by omega)).mono ?_; rintro e w4 ⟨v4, o4, rfl, hs, rfl, hd4⟩
          have hlg := hld.1.step hs nDL nD0
          have hb4 := hbH.out.step hs nD0
          have hkpF := hkpH.out.step hs nD0
          have hnx := hnx.step hs nD0
          have hst := hst.trans (hs.above1 mD)
          have ca0 : w4.cell? ⟨ab, 0, none⟩ = some (.bool false) := by
            have e := (hs.block ab (lt_of_block habH.out) (by rw [hao3]; exact nD0)).trans habH.out
            exact cell_of_block e 0
          have hGF : Hid (LogM.Good (257 * j) (s.1, s.2.fuse tf)) := hidden (LogM.Good.fuse hG.out tf (by omega))
          have hplF : Hid ((s.2.fuse tf).pages.length = k) := hidden (by rw [DiskM.fuse_pages]; exact hpl.out)
          obtain ⟨dF, hdF⟩ : ∃ dF, s.2.fuse tf = dF := ⟨_, rfl⟩
          rw [hdF] at hd4 hGF hplF
          have hldF : LD w4 o4 L D px pd (s.1, dF) := ⟨hlg, hd4⟩
          clear hs hd4 hlg hld hdF ca3
          have hrowF : dF.row.length ≤ 700000 := by have := hGF.out.row; simp only at this; rw [this]; simp
          have hact : ∀ s' e, LogM.commit tx (s.1, dF) = (s', e) → Calls Try.prog 40 #[.pointer (some ⟨px, 0, none⟩), .slice (some ⟨g, 0, none⟩) q q] w4 (Ret (In L D) w4 o4 fun v w' o' => v = .int .i64 e ∧ LD w' o' L D px pd s') :=
            fun s' e he => commit_is hL0 hD0 hLD hldF hrowF tx _ hb4 hcap (by omega) he
          have hgl := hidden hact
          clear hact
          have hact := hgl
          have hnxH2 := hidden hnx
          have hkpFH := hidden hkpF
          clear hnx hkpF
          clear hrowF hb4
          rcases LogM.commit_cases hGF.out (by omega) tx with ⟨hm, hc⟩ | ⟨-, s', hc, hg1, hg2, -, hg4, hg5, hg6, -⟩ | ⟨hg0, s', hc, hg2, hg3, hg4, -, -, hg6⟩
          · have hmH := hidden hm
            clear hm
            go_wp2_with fail
            have hm := hmH.out
            have hkpF := hkpFH.out
            refine (hact.out _ 4 hc).mono ?_; rintro e w5 ⟨v5, o5, rfl, hs, rfl, hld⟩
            have hkz : Slc w5 o5 (.slice ka rl kc) s.1.records.length (tvs s.1.records) := by rw [hrlH.out]; exact hkpF.step hs nL0
            have hst := hst.trans (hs.above2 mL mD)
            have hGz : Hid (LogM.Good (257 * (j + 1)) (s.1, dF.fuse (-1))) := hidden ((LogM.Good.fuse (l := s.1) (d := dF) hGF.out (-1) (by omega)).mono (by omega))
            have hlz : Hid ((dF.fuse (-1)).left < 0) := hidden (by rw [LogM.fuse_left hGF.out.dd]; omega)
            have hnz : Hid (s.1.n = k) := hn
            have hfz : Hid (s.1.first = 0) := hf0
            have hpz : Hid ((dF.fuse (-1)).pages.length = k) := hidden (by rw [DiskM.fuse_pages]; exact hplF.out)
            obtain ⟨R, hR⟩ : ∃ R, s.1.room = R := ⟨_, rfl⟩
            have hRH := hidden hR
            have hRq : 0 < R → R < q := by
              intro hR0
              have h1 := hm
              rw [← hR] at hR0 ⊢
              unfold LogM.room at hR0 ⊢
              unfold LogM.many at h1
              rw [htl] at h1
              omega
            have hR9 : (R : Int) ≤ 9600 := by
              rw [← hR]; unfold LogM.room; have := hn.out; omega
            have hrmA := room_is hld.1 R hR
            clear hact hs hm hc hldF hR hgl
            by_cases hR0 : 0 < R
            · have hRI : (0 : Int) < (R : Int) := by omega
              have hRI2 : (R : Int) < (q : Int) := by have := hRq hR0; omega
              clear hRq
              go_wp2_with fail
              refine hrmA.mono ?_; rintro e w5a ⟨v5a, o5a, rfl, hs, rfl⟩
              have hld := hld.step hs (nn _) (nn _) (nn _)
              have hkz := hkz.step hs (nn _)
              have hst := hst.trans hs.above0
              have hrmB := room_is hld.1 R hRH.out
              clear hs hrmA
              go_wp2_with fail
              refine hrmB.mono ?_; rintro e w5b ⟨v5b, o5b, rfl, hs, rfl⟩
              have hld := hld.step hs (nn _) (nn _) (nn _)
              have hkz := hkz.step hs (nn _)
              have hst := hst.trans hs.above0
              clear hs hrmB
              go_wp2_with fail
              refine (fuse_any hld.2 (-1) (by omega)).mono ?_; rintro e w6 ⟨v6, o6, rfl, hs, rfl, hd6⟩
              have hlg := hld.1.step hs nDL nD0
              have hkz := hkz.step hs nD0
              have hst := hst.trans (hs.above1 mD)
              clear hs hld
              go_wp2_with fail
              refine (batches_texts hlg).mono ?_; rintro e w7 ⟨v7, o7, rfl, hs, hcl⟩
              have hlg := hlg.step hs (nn _) (nn _)
              have hd6 := hd6.step hs (nn _)
              have hkz := hkz.step hs (nn _)
              have hst := hst.trans hs.above0
              clear hs
              go_wp2_with fail
              refine hcl.mono ?_; rintro e w8 ⟨v8, o8, rfl, hs, hs1⟩
              have hlg := hlg.step hs (nn _) (nn _)
              have hd6 := hd6.step hs (nn _)
              have hkz := hkz.step hs (nn _)
              have hst := hst.trans hs.above0
              clear hs hcl
              obtain ⟨_, _, hw3, _, hw5, hw6, _⟩ := hlg.wf
              have heq := equal_is hs1 hkz (by omega) true (by simp)
              clear hs1 hw3 hw5 hw6
              go_wp2_with fail
              refine heq.mono ?_; rintro e w9 ⟨v9, o9, rfl, hs, rfl⟩
              have hlg := hlg.step hs (nn _) (nn _)
              have hd6 := hd6.step hs (nn _)
              have hkz := hkz.step hs (nn _)
              have hst := hst.trans hs.above0
              clear hs heq
              go_wp2_with fail
              go_roundw
              case rel => exact ⟨j + 1, o9, _, _, (s.1, dF.fuse (-1)), by omega, by go_num, rfl, ⟨hlg, hd6⟩, hst, mL, hLD, hkz, hGz.out, hlz.out, hnz.out, hfz.out, hpz.out⟩
              case measure => simp [intOf]; omega
            · have hRI : (R : Int) = 0 := by omega
              clear hRq hR0
              go_wp2_with fail
              refine hrmA.mono ?_; rintro e w5a ⟨v5a, o5a, rfl, hs, rfl⟩
              have hld := hld.step hs (nn _) (nn _) (nn _)
              have hkz := hkz.step hs (nn _)
              have hst := hst.trans hs.above0
              clear hs hrmA
              go_wp2_with fail
              refine (fuse_any hld.2 (-1) (by omega)).mono ?_; rintro e w6 ⟨v6, o6, rfl, hs, rfl, hd6⟩
              have hlg := hld.1.step hs nDL nD0
              have hkz := hkz.step hs nD0
              have hst := hst.trans (hs.above1 mD)
              clear hs hld
              go_wp2_with fail
              refine (batches_texts hlg).mono ?_; rintro e w7 ⟨v7, o7, rfl, hs, hcl⟩
              have hlg := hlg.step hs (nn _) (nn _)
              have hd6 := hd6.step hs (nn _)
              have hkz := hkz.step hs (nn _)
              have hst := hst.trans hs.above0
              clear hs
              go_wp2_with fail
              refine hcl.mono ?_; rintro e w8 ⟨v8, o8, rfl, hs, hs1⟩
              have hlg := hlg.step hs (nn _) (nn _)
              have hd6 := hd6.step hs (nn _)
              have hkz := hkz.step hs (nn _)
              have hst := hst.trans hs.above0
              clear hs hcl
              obtain ⟨_, _, hw3, _, hw5, hw6, _⟩ := hlg.wf
              have heq := equal_is hs1 hkz (by omega) true (by simp)
              clear hs1 hw3 hw5 hw6
              go_wp2_with fail
              refine heq.mono ?_; rintro e w9 ⟨v9, o9, rfl, hs, rfl⟩
              have hlg := hlg.step hs (nn _) (nn _)
              have hd6 := hd6.step hs (nn _)
              have hkz := hkz.step hs (nn _)
              have hst := hst.trans hs.above0
              clear hs heq
              go_wp2_with fail
              go_roundw
              case rel => exact ⟨j + 1, o9, _, _, (s.1, dF.fuse (-1)), by omega, by go_num, rfl, ⟨hlg, hd6⟩, hst, mL, hLD, hkz, hGz.out, hlz.out, hnz.out, hfz.out, hpz.out⟩
              case measure => simp [intOf]; omega
          · go_wp2_with fail
            have hnx := hnxH2.out
            refine (hact.out _ 0 hc).mono ?_; rintro e w5 ⟨v5, o5, rfl, hs, rfl, hld⟩
            have hkz := hnx.step hs nL0
            have hst := hst.trans (hs.above2 mL mD)
            have hGz : Hid (LogM.Good (257 * (j + 1)) (s'.1, s'.2.fuse (-1))) := hidden ((LogM.Good.fuse (l := s'.1) (d := s'.2) hg1 (-1) (by omega)).mono (by omega))
            have hlz : Hid ((s'.2.fuse (-1)).left < 0) := hidden (by rw [LogM.fuse_left hg1.dd]; omega)
            have hnz : Hid (s'.1.n = k) := hidden (hg4.trans hn.out)
            have hfz : Hid (s'.1.first = 0) := hidden (hg5.trans hf0.out)
            have hpz : Hid ((s'.2.fuse (-1)).pages.length = k) := hidden (by rw [DiskM.fuse_pages]; exact hg6.1.trans hplF.out)
            rw [← hg2] at hkz
            clear hact hnx hs hg1 hg2 hg4 hg5 hg6 hc hldF hgl
            go_wp2_with fail
            refine (fuse_any hld.2 (-1) (by omega)).mono ?_; rintro e w6 ⟨v6, o6, rfl, hs, rfl, hd6⟩
            have hlg := hld.1.step hs nDL nD0
            have hkz := hkz.step hs nD0
            have hst := hst.trans (hs.above1 mD)
            clear hs hld
            go_wp2_with fail
            refine (batches_texts hlg).mono ?_; rintro e w7 ⟨v7, o7, rfl, hs, hcl⟩
            have hlg := hlg.step hs (nn _) (nn _)
            have hd6 := hd6.step hs (nn _)
            have hkz := hkz.step hs (nn _)
            have hst := hst.trans hs.above0
            clear hs
            go_wp2_with fail
            refine hcl.mono ?_; rintro e w8 ⟨v8, o8, rfl, hs, hs1⟩
            have hlg := hlg.step hs (nn _) (nn _)
            have hd6 := hd6.step hs (nn _)
            have hkz := hkz.step hs (nn _)
            have hst := hst.trans hs.above0
            clear hs hcl
            obtain ⟨_, _, hw3, _, hw5, hw6, _⟩ := hlg.wf
            have heq := equal_is hs1 hkz (by omega) true (by simp)
            clear hs1 hw3 hw5 hw6
            go_wp2_with fail
            refine heq.mono ?_; rintro e w9 ⟨v9, o9, rfl, hs, rfl⟩
            have hlg := hlg.step hs (nn _) (nn _)
            have hd6 := hd6.step hs (nn _)
            have hkz := hkz.step hs (nn _)
            have hst := hst.trans hs.above0
            clear hs heq
            go_wp2_with fail
            go_roundw
            case rel => exact ⟨j + 1, o9, _, _, (s'.1, s'.2.fuse (-1)), by omega, by go_num, rfl, ⟨hlg, hd6⟩, hst, mL, hLD, hkz, hGz.out, hlz.out, hnz.out, hfz.out, hpz.out⟩
            case measure => simp [intOf]; omega
          · go_wp2_with fail
            have hnx := hnxH2.out
            have hkpF := hkpFH.out
            refine (hact.out _ 9 hc).mono ?_; rintro e w5 ⟨v5, o5, rfl, hs, rfl, hld⟩
            have hkq := hkpF.step hs nL0
            have hnq := hnx.step hs nL0
            have hst := hst.trans (hs.above2 mL mD)
            have hB := hg6 fates
            obtain ⟨d2, hd2⟩ : ∃ d2, s'.2.restart fates = d2 := ⟨_, rfl⟩
            rw [hd2] at hB
            have hff := hfH.out.step hst hT0
            have hre := restart_is hld.2 hD0 (by omega) (.slice fa fl fc) fates hff hfwH.out hd2
            have hlx := hld.1
            have hBH := hidden hB
            have hdeadH := hidden hg2
            clear hact hnx hs hc hldF hkpF hg2 hg3 hg4 hg6 hd2 hB hff hld hgl
            obtain ⟨L', mL', hLD', hLL'⟩ := hpick L
            have hL0' : L' ≠ 0 := by omega
            have oL0' : ¬ Only L' 0 := fun h => by change _ = _ at h; omega
            have oLL' : ¬ Only L' L := fun h => hLL' h.symm
            have oLD' : ¬ Only L' D := fun h => hLD' h.symm
            have nDL' : ¬ Only D L' := fun h => hLD' h
            go_wp2_with fail
            refine hre.mono ?_; rintro e w6 ⟨v6, o6, rfl, hs, rfl, hd6⟩
            have hlx := hlx.step hs nDL nD0
            have hkq := hkq.step hs nD0
            have hnq := hnq.step hs nD0
            have hst := hst.trans (hs.above1 mD)
            have hbk := hBH.out.good
            have hbo := hBH.out.oth
            rw [hf0.out, hn.out] at hbk hbo
            have hop := open_yes hL0' hD0 hLD' hd6 (by rw [hbk.row]; simp) hbk.dd 0 k hk2 (by omega) (by rw [hbo.1, hplF.out]; omega)
            have hnw : LogM.newest (LogM.seenPages d2 0 k) ≠ BitVec.allOnes 64 := by
              have h1 := hbk.stamp_le
              have h2 : (LogM.ofPages 0 (LogM.seenPages d2 0 k)).stamp = LogM.newest (LogM.seenPages d2 0 k) := rfl
              rw [h2] at h1
              intro h; rw [h] at h1; simp at h1; omega
            have hnwH := hidden hnw
            have hpl2 := hidden (hbo.1.trans hplF.out)
            have hbkH := hidden hbk
            rw [← hkiH.out] at hop
            have hop' : Calls Try.prog 38 #[.pointer (some ⟨pd, 0, none⟩), .int .i64 0, .int .i64 (2 + (N : Int) % 19)] w6 (Ret (Only L') w6 o6 fun v w' o' => Opened w6 w' o' L' pd 0 (LogM.seenPages d2 0 k) v) := hop
            clear hs hre hbk hbo hop hnw
            go_wp2_with fail
            refine hop'.mono ?_; rintro e w7 ⟨v7, o7, rfl, hs, hopd⟩
            obtain ⟨py, -, rfl, hly⟩ := hopd.2 hnwH.out
            have hlx := hlx.step hs oLL' oL0'
            have hd6 := hd6.step hs oLD'
            have hkq := hkq.step hs oL0'
            have hnq := hnq.step hs oL0'
            have hst := hst.trans (hs.above1 mL')
            have hcd := commit_dead (⟨hlx, hd6⟩ : LD w7 o7 L D px pd (s'.1, d2)) (by show (s'.1.dead || d2.dead) = true; rw [hdeadH.out]; rfl) none 0 0
            clear hs hopd hop'
            go_wp2_with fail
            refine hcd.mono ?_; rintro e w8 ⟨v8, o8, rfl, hs, rfl⟩
            have hly := hly.step hs (nn _) (nn _)
            have hd6 := hd6.step hs (nn _)
            have hkq := hkq.step hs (nn _)
            have hnq := hnq.step hs (nn _)
            have hst := hst.trans hs.above0
            clear hs hcd hlx
            obtain ⟨y, hy⟩ : ∃ y, LogM.ofPages 0 (LogM.seenPages d2 0 k) = y := ⟨_, rfl⟩
            have hrec := hBH.out.recs
            rw [hf0.out, hn.out, hy] at hrec
            rw [hy] at hly
            have hgy := hbkH.out
            rw [hy] at hgy
            have hGz : Hid (LogM.Good (257 * (j + 1)) (y, d2.fuse (-1))) := hidden ((LogM.Good.fuse hgy (-1) (by omega)).mono (by omega))
            have hlz : Hid ((d2.fuse (-1)).left < 0) := hidden (by rw [LogM.fuse_left hgy.dd]; omega)
            have hnz : Hid (y.n = k) := hidden (by rw [← hy]; exact LogM.seen_n 0 k d2)
            have hfz : Hid (y.first = 0) := hidden (by rw [← hy]; rfl)
            have hpz : Hid ((d2.fuse (-1)).pages.length = k) := hidden (by rw [DiskM.fuse_pages]; exact hpl2.out)
            have hld : LD w8 o8 L' D py pd (y, d2) := ⟨hly, hd6⟩
            clear hgy hy hly hd6 hbkH hBH hnwH hpl2 hdeadH
            go_wp2_with fail
            refine (batches_texts hld.1).mono ?_; rintro e w9 ⟨v9, o9, rfl, hs, hcl⟩
            have hld := hld.step hs (nn _) (nn _) (nn _)
            have hkq := hkq.step hs (nn _)
            have hnq := hnq.step hs (nn _)
            have hst := hst.trans hs.above0
            clear hs
            go_wp2_with fail
            refine hcl.mono ?_; rintro e wa ⟨va, oa, rfl, hs, hs1⟩
            have hld := hld.step hs (nn _) (nn _) (nn _)
            have hkq := hkq.step hs (nn _)
            have hnq := hnq.step hs (nn _)
            have hst := hst.trans hs.above0
            clear hs hcl
            obtain ⟨_, _, hw3, _, hw5, hw6, _⟩ := hld.1.wf
            dsimp only at hw3 hw5 hw6
            have hyl : y.records.length ≤ 1000000 := by omega
            clear hw3 hw5 hw6
            by_cases hE : y.records = (s.1.records ++ [tx])
            · have heq := equal_is hs1 (l2 := (s.1.records ++ [tx])) hnq hyl true (by rw [hE]; simp)
              rw [← hE] at hnq
              clear hs1 hyl hrec hkq
              go_wp2_with fail
              refine heq.mono ?_; rintro e wb ⟨vb, ob, rfl, hs, rfl⟩
              have hld := hld.step hs (nn _) (nn _) (nn _)
              have hkz := hnq.step hs (nn _)
              have hst := hst.trans hs.above0
              clear hs heq hnq hE
              go_wp2_with fail
              refine (fuse_any hld.2 (-1) (by omega)).mono ?_; rintro e w6 ⟨v6, o6, rfl, hs, rfl, hd6⟩
              have hlg := hld.1.step hs nDL' nD0
              have hkz := hkz.step hs nD0
              have hst := hst.trans (hs.above1 mD)
              clear hs hld
              go_wp2_with fail
              refine (batches_texts hlg).mono ?_; rintro e w7 ⟨v7, o7, rfl, hs, hcl⟩
              have hlg := hlg.step hs (nn _) (nn _)
              have hd6 := hd6.step hs (nn _)
              have hkz := hkz.step hs (nn _)
              have hst := hst.trans hs.above0
              clear hs
              go_wp2_with fail
              refine hcl.mono ?_; rintro e w8 ⟨v8, o8, rfl, hs, hs1⟩
              have hlg := hlg.step hs (nn _) (nn _)
              have hd6 := hd6.step hs (nn _)
              have hkz := hkz.step hs (nn _)
              have hst := hst.trans hs.above0
              clear hs hcl
              obtain ⟨_, _, hw3, _, hw5, hw6, _⟩ := hlg.wf
              have heq := equal_is hs1 hkz (by omega) true (by simp)
              clear hs1 hw3 hw5 hw6
              go_wp2_with fail
              refine heq.mono ?_; rintro e w9 ⟨v9, o9, rfl, hs, rfl⟩
              have hlg := hlg.step hs (nn _) (nn _)
              have hd6 := hd6.step hs (nn _)
              have hkz := hkz.step hs (nn _)
              have hst := hst.trans hs.above0
              clear hs heq
              go_wp2_with fail
              go_roundw
              case rel => exact ⟨j + 1, o9, _, _, (y, d2.fuse (-1)), by omega, by go_num, rfl, ⟨hlg, hd6⟩, hst, mL', hLD', hkz, hGz.out, hlz.out, hnz.out, hfz.out, hpz.out⟩
              case measure => simp [intOf]; omega
            · have hR2 : y.records = s.1.records := by
                rcases hrec with h | h
                · exact h
                · exact (hE h).elim
              have heq := equal_is hs1 (l2 := (s.1.records ++ [tx])) hnq hyl false (by rw [beq_eq_false_iff_ne]; exact hE)
              have hkq : Slc wa oa (.slice ka rl kc) y.records.length (tvs y.records) := by rw [hR2, hrlH.out]; exact hkq
              clear hs1 hyl hrec hnq
              go_wp2_with fail
              refine heq.mono ?_; rintro e wb ⟨vb, ob, rfl, hs, rfl⟩
              have hld := hld.step hs (nn _) (nn _) (nn _)
              have hkz := hkq.step hs (nn _)
              have hst := hst.trans hs.above0
              clear hs heq hkq hE hR2
              go_wp2_with fail
              refine (fuse_any hld.2 (-1) (by omega)).mono ?_; rintro e w6 ⟨v6, o6, rfl, hs, rfl, hd6⟩
              have hlg := hld.1.step hs nDL' nD0
              have hkz := hkz.step hs nD0
              have hst := hst.trans (hs.above1 mD)
              clear hs hld
              go_wp2_with fail
              refine (batches_texts hlg).mono ?_; rintro e w7 ⟨v7, o7, rfl, hs, hcl⟩
              have hlg := hlg.step hs (nn _) (nn _)
              have hd6 := hd6.step hs (nn _)
              have hkz := hkz.step hs (nn _)
              have hst := hst.trans hs.above0
              clear hs
              go_wp2_with fail
              refine hcl.mono ?_; rintro e w8 ⟨v8, o8, rfl, hs, hs1⟩
              have hlg := hlg.step hs (nn _) (nn _)
              have hd6 := hd6.step hs (nn _)
              have hkz := hkz.step hs (nn _)
              have hst := hst.trans hs.above0
              clear hs hcl
              obtain ⟨_, _, hw3, _, hw5, hw6, _⟩ := hlg.wf
              have heq := equal_is hs1 hkz (by omega) true (by simp)
              clear hs1 hw3 hw5 hw6
              go_wp2_with fail
              refine heq.mono ?_; rintro e w9 ⟨v9, o9, rfl, hs, rfl⟩
              have hlg := hlg.step hs (nn _) (nn _)
              have hd6 := hd6.step hs (nn _)
              have hkz := hkz.step hs (nn _)
              have hst := hst.trans hs.above0
              clear hs heq
              go_wp2_with fail
              go_roundw
              case rel => exact ⟨j + 1, o9, _, _, (y, d2.fuse (-1)), by omega, by go_num, rfl, ⟨hlg, hd6⟩, hst, mL', hLD', hkz, hGz.out, hlz.out, hnz.out, hfz.out, hpz.out⟩
              case measure => simp [intOf]; omega
        · have hnx : Slc w3 o3 (.slice na (rl + 1) nc) (s.1.records ++ [tx]).length (tvs (s.1.records ++ [tx])) := by rw [List.length_append, hrlH.out]; exact hnxH.out
          have hldF : LD w3 o3 L D px pd (s.1, s.2) := hld
          have hb4 := hbH.out
          have hkpF := hkpH.out
          have hGF : Hid (LogM.Good (257 * j) (s.1, s.2)) := hG
          have hplF := hpl
          have hlt0 : s.2.left < 0 := hle.out
          obtain ⟨dF, hdF⟩ : ∃ dF, s.2 = dF := ⟨_, rfl⟩
          rw [hdF] at hldF hGF hplF hlt0
          clear hld hdF
          have hrowF : dF.row.length ≤ 700000 := by have := hGF.out.row; simp only at this; rw [this]; simp
          have hact : ∀ s' e, LogM.commit tx (s.1, dF) = (s', e) → Calls Try.prog 40 #[.pointer (some ⟨px, 0, none⟩), .slice (some ⟨g, 0, none⟩) q q] w3 (Ret (In L D) w3 o3 fun v w' o' => v = .int .i64 e ∧ LD w' o' L D px pd s') :=
            fun s' e he => commit_is hL0 hD0 hLD hldF hrowF tx _ hb4 hcap (by omega) he
          have hgl := hidden hact
          clear hact
          have hact := hgl
          have hnxH2 := hidden hnx
          have hkpFH := hidden hkpF
          clear hnx hkpF
          clear hrowF hb4
          rcases LogM.commit_cases hGF.out (by omega) tx with ⟨hm, hc⟩ | ⟨-, s', hc, hg1, hg2, -, hg4, hg5, hg6, -⟩ | ⟨hg0, s', hc, hg2, hg3, hg4, -, -, hg6⟩
          · have hmH := hidden hm
            clear hm
            go_wp2_with fail
            have hm := hmH.out
            have hkpF := hkpFH.out
            refine (hact.out _ 4 hc).mono ?_; rintro e w5 ⟨v5, o5, rfl, hs, rfl, hld⟩
            have hkz : Slc w5 o5 (.slice ka rl kc) s.1.records.length (tvs s.1.records) := by rw [hrlH.out]; exact hkpF.step hs nL0
            have hst := hst.trans (hs.above2 mL mD)
            have hGz : Hid (LogM.Good (257 * (j + 1)) (s.1, dF.fuse (-1))) := hidden ((LogM.Good.fuse (l := s.1) (d := dF) hGF.out (-1) (by omega)).mono (by omega))
            have hlz : Hid ((dF.fuse (-1)).left < 0) := hidden (by rw [LogM.fuse_left hGF.out.dd]; omega)
            have hnz : Hid (s.1.n = k) := hn
            have hfz : Hid (s.1.first = 0) := hf0
            have hpz : Hid ((dF.fuse (-1)).pages.length = k) := hidden (by rw [DiskM.fuse_pages]; exact hplF.out)
            obtain ⟨R, hR⟩ : ∃ R, s.1.room = R := ⟨_, rfl⟩
            have hRH := hidden hR
            have hRq : 0 < R → R < q := by
              intro hR0
              have h1 := hm
              rw [← hR] at hR0 ⊢
              unfold LogM.room at hR0 ⊢
              unfold LogM.many at h1
              rw [htl] at h1
              omega
            have hR9 : (R : Int) ≤ 9600 := by
              rw [← hR]; unfold LogM.room; have := hn.out; omega
            have hrmA := room_is hld.1 R hR
            clear hact hs hm hc hldF hR hgl
            by_cases hR0 : 0 < R
            · have hRI : (0 : Int) < (R : Int) := by omega
              have hRI2 : (R : Int) < (q : Int) := by have := hRq hR0; omega
              clear hRq
              go_wp2_with fail
              refine hrmA.mono ?_; rintro e w5a ⟨v5a, o5a, rfl, hs, rfl⟩
              have hld := hld.step hs (nn _) (nn _) (nn _)
              have hkz := hkz.step hs (nn _)
              have hst := hst.trans hs.above0
              have hrmB := room_is hld.1 R hRH.out
              clear hs hrmA
              go_wp2_with fail
              refine hrmB.mono ?_; rintro e w5b ⟨v5b, o5b, rfl, hs, rfl⟩
              have hld := hld.step hs (nn _) (nn _) (nn _)
              have hkz := hkz.step hs (nn _)
              have hst := hst.trans hs.above0
              clear hs hrmB
              go_wp2_with fail
              refine (fuse_any hld.2 (-1) (by omega)).mono ?_; rintro e w6 ⟨v6, o6, rfl, hs, rfl, hd6⟩
              have hlg := hld.1.step hs nDL nD0
              have hkz := hkz.step hs nD0
              have hst := hst.trans (hs.above1 mD)
              clear hs hld
              go_wp2_with fail
              refine (batches_texts hlg).mono ?_; rintro e w7 ⟨v7, o7, rfl, hs, hcl⟩
              have hlg := hlg.step hs (nn _) (nn _)
              have hd6 := hd6.step hs (nn _)
              have hkz := hkz.step hs (nn _)
              have hst := hst.trans hs.above0
              clear hs
              go_wp2_with fail
              refine hcl.mono ?_; rintro e w8 ⟨v8, o8, rfl, hs, hs1⟩
              have hlg := hlg.step hs (nn _) (nn _)
              have hd6 := hd6.step hs (nn _)
              have hkz := hkz.step hs (nn _)
              have hst := hst.trans hs.above0
              clear hs hcl
              obtain ⟨_, _, hw3, _, hw5, hw6, _⟩ := hlg.wf
              have heq := equal_is hs1 hkz (by omega) true (by simp)
              clear hs1 hw3 hw5 hw6
              go_wp2_with fail
              refine heq.mono ?_; rintro e w9 ⟨v9, o9, rfl, hs, rfl⟩
              have hlg := hlg.step hs (nn _) (nn _)
              have hd6 := hd6.step hs (nn _)
              have hkz := hkz.step hs (nn _)
              have hst := hst.trans hs.above0
              clear hs heq
              go_wp2_with fail
              go_roundw
              case rel => exact ⟨j + 1, o9, _, _, (s.1, dF.fuse (-1)), by omega, by go_num, rfl, ⟨hlg, hd6⟩, hst, mL, hLD, hkz, hGz.out, hlz.out, hnz.out, hfz.out, hpz.out⟩
              case measure => simp [intOf]; omega
            · have hRI : (R : Int) = 0 := by omega
              clear hRq hR0
              go_wp2_with fail
              refine hrmA.mono ?_; rintro e w5a ⟨v5a, o5a, rfl, hs, rfl⟩
              have hld := hld.step hs (nn _) (nn _) (nn _)
              have hkz := hkz.step hs (nn _)
              have hst := hst.trans hs.above0
              clear hs hrmA
              go_wp2_with fail
              refine (fuse_any hld.2 (-1) (by omega)).mono ?_; rintro e w6 ⟨v6, o6, rfl, hs, rfl, hd6⟩
              have hlg := hld.1.step hs nDL nD0
              have hkz := hkz.step hs nD0
              have hst := hst.trans (hs.above1 mD)
              clear hs hld
              go_wp2_with fail
              refine (batches_texts hlg).mono ?_; rintro e w7 ⟨v7, o7, rfl, hs, hcl⟩
              have hlg := hlg.step hs (nn _) (nn _)
              have hd6 := hd6.step hs (nn _)
              have hkz := hkz.step hs (nn _)
              have hst := hst.trans hs.above0
              clear hs
              go_wp2_with fail
              refine hcl.mono ?_; rintro e w8 ⟨v8, o8, rfl, hs, hs1⟩
              have hlg := hlg.step hs (nn _) (nn _)
              have hd6 := hd6.step hs (nn _)
              have hkz := hkz.step hs (nn _)
              have hst := hst.trans hs.above0
              clear hs hcl
              obtain ⟨_, _, hw3, _, hw5, hw6, _⟩ := hlg.wf
              have heq := equal_is hs1 hkz (by omega) true (by simp)
              clear hs1 hw3 hw5 hw6
              go_wp2_with fail
              refine heq.mono ?_; rintro e w9 ⟨v9, o9, rfl, hs, rfl⟩
              have hlg := hlg.step hs (nn _) (nn _)
              have hd6 := hd6.step hs (nn _)
              have hkz := hkz.step hs (nn _)
              have hst := hst.trans hs.above0
              clear hs heq
              go_wp2_with fail
              go_roundw
              case rel => exact ⟨j + 1, o9, _, _, (s.1, dF.fuse (-1)), by omega, by go_num, rfl, ⟨hlg, hd6⟩, hst, mL, hLD, hkz, hGz.out, hlz.out, hnz.out, hfz.out, hpz.out⟩
              case measure => simp [intOf]; omega
          · go_wp2_with fail
            have hnx := hnxH2.out
            refine (hact.out _ 0 hc).mono ?_; rintro e w5 ⟨v5, o5, rfl, hs, rfl, hld⟩
            have hkz := hnx.step hs nL0
            have hst := hst.trans (hs.above2 mL mD)
            have hGz : Hid (LogM.Good (257 * (j + 1)) (s'.1, s'.2.fuse (-1))) := hidden ((LogM.Good.fuse (l := s'.1) (d := s'.2) hg1 (-1) (by omega)).mono (by omega))
            have hlz : Hid ((s'.2.fuse (-1)).left < 0) := hidden (by rw [LogM.fuse_left hg1.dd]; omega)
            have hnz : Hid (s'.1.n = k) := hidden (hg4.trans hn.out)
            have hfz : Hid (s'.1.first = 0) := hidden (hg5.trans hf0.out)
            have hpz : Hid ((s'.2.fuse (-1)).pages.length = k) := hidden (by rw [DiskM.fuse_pages]; exact hg6.1.trans hplF.out)
            rw [← hg2] at hkz
            clear hact hnx hs hg1 hg2 hg4 hg5 hg6 hc hldF hgl
            go_wp2_with fail
            refine (fuse_any hld.2 (-1) (by omega)).mono ?_; rintro e w6 ⟨v6, o6, rfl, hs, rfl, hd6⟩
            have hlg := hld.1.step hs nDL nD0
            have hkz := hkz.step hs nD0
            have hst := hst.trans (hs.above1 mD)
            clear hs hld
            go_wp2_with fail
            refine (batches_texts hlg).mono ?_; rintro e w7 ⟨v7, o7, rfl, hs, hcl⟩
            have hlg := hlg.step hs (nn _) (nn _)
            have hd6 := hd6.step hs (nn _)
            have hkz := hkz.step hs (nn _)
            have hst := hst.trans hs.above0
            clear hs
            go_wp2_with fail
            refine hcl.mono ?_; rintro e w8 ⟨v8, o8, rfl, hs, hs1⟩
            have hlg := hlg.step hs (nn _) (nn _)
            have hd6 := hd6.step hs (nn _)
            have hkz := hkz.step hs (nn _)
            have hst := hst.trans hs.above0
            clear hs hcl
            obtain ⟨_, _, hw3, _, hw5, hw6, _⟩ := hlg.wf
            have heq := equal_is hs1 hkz (by omega) true (by simp)
            clear hs1 hw3 hw5 hw6
            go_wp2_with fail
            refine heq.mono ?_; rintro e w9 ⟨v9, o9, rfl, hs, rfl⟩
            have hlg := hlg.step hs (nn _) (nn _)
            have hd6 := hd6.step hs (nn _)
            have hkz := hkz.step hs (nn _)
            have hst := hst.trans hs.above0
            clear hs heq
            go_wp2_with fail
            go_roundw
            case rel => exact ⟨j + 1, o9, _, _, (s'.1, s'.2.fuse (-1)), by omega, by go_num, rfl, ⟨hlg, hd6⟩, hst, mL, hLD, hkz, hGz.out, hlz.out, hnz.out, hfz.out, hpz.out⟩
            case measure => simp [intOf]; omega
          · (exfalso; simp only at hg0; omega)
      | true =>
        by_cases hfz : tf ≤ 60
        · have hnx : Slc w3 o3 (.slice none 0 0) ([] : List (List UInt8)).length (tvs []) := .inl ⟨⟨_, _, rfl⟩, rfl, rfl⟩
          go_wp2_with fail
          refine (fuse_any hld.2 tf (by omega)).mono ?_; rintro e w4 ⟨v4, o4, rfl, hs, rfl, hd4⟩
          have hlg := hld.1.step hs nDL nD0
          have hb4 := hbH.out.step hs nD0
          have hkpF := hkpH.out.step hs nD0
          have hnx := hnx.step hs nD0
          have hst := hst.trans (hs.above1 mD)
          have ca0 : w4.cell? ⟨ab, 0, none⟩ = some (.bool true) := by
            have e := (hs.block ab (lt_of_block habH.out) (by rw [hao3]; exact nD0)).trans habH.out
            exact cell_of_block e 0
          have hGF : Hid (LogM.Good (257 * j) (s.1, s.2.fuse tf)) := hidden (LogM.Good.fuse hG.out tf (by omega))
          have hplF : Hid ((s.2.fuse tf).pages.length = k) := hidden (by rw [DiskM.fuse_pages]; exact hpl.out)
          obtain ⟨dF, hdF⟩ : ∃ dF, s.2.fuse tf = dF := ⟨_, rfl⟩
          rw [hdF] at hd4 hGF hplF
          have hldF : LD w4 o4 L D px pd (s.1, dF) := ⟨hlg, hd4⟩
          clear hs hd4 hlg hld hdF ca3
          have hrowF : dF.row.length ≤ 700000 := by have := hGF.out.row; simp only at this; rw [this]; simp
          have hact : ∀ s' e, LogM.reset (s.1, dF) = (s', e) → Calls Try.prog 43 #[.pointer (some ⟨px, 0, none⟩)] w4 (Ret (In L D) w4 o4 fun v w' o' => v = .int .i64 e ∧ LD w' o' L D px pd s') :=
            fun s' e he => reset_is hL0 hD0 hLD hldF hrowF he
          have hgl := hidden hact
          clear hact
          have hact := hgl
          have hnxH2 := hidden hnx
          have hkpFH := hidden hkpF
          clear hnx hkpF
          clear hrowF hb4
          rcases LogM.reset_cases hGF.out (by omega) with ⟨s', hc, hg1, hg2, -, hg4, hg5, hg6, -⟩ | ⟨hg0, s', hc, hg2, hg3, hg4, -, -, hg6⟩
          · have hg1 := hg1.mono (show 257 * j + 1 ≤ 257 * j + 2 by omega)
            go_wp2_with fail
            have hnx := hnxH2.out
            refine (hact.out _ 0 hc).mono ?_; rintro e w5 ⟨v5, o5, rfl, hs, rfl, hld⟩
            have hkz := hnx.step hs nL0
            have hst := hst.trans (hs.above2 mL mD)
            have hGz : Hid (LogM.Good (257 * (j + 1)) (s'.1, s'.2.fuse (-1))) := hidden ((LogM.Good.fuse (l := s'.1) (d := s'.2) hg1 (-1) (by omega)).mono (by omega))
            have hlz : Hid ((s'.2.fuse (-1)).left < 0) := hidden (by rw [LogM.fuse_left hg1.dd]; omega)
            have hnz : Hid (s'.1.n = k) := hidden (hg4.trans hn.out)
            have hfz : Hid (s'.1.first = 0) := hidden (hg5.trans hf0.out)
            have hpz : Hid ((s'.2.fuse (-1)).pages.length = k) := hidden (by rw [DiskM.fuse_pages]; exact hg6.1.trans hplF.out)
            rw [← hg2] at hkz
            clear hact hnx hs hg1 hg2 hg4 hg5 hg6 hc hldF hgl
            go_wp2_with fail
            refine (fuse_any hld.2 (-1) (by omega)).mono ?_; rintro e w6 ⟨v6, o6, rfl, hs, rfl, hd6⟩
            have hlg := hld.1.step hs nDL nD0
            have hkz := hkz.step hs nD0
            have hst := hst.trans (hs.above1 mD)
            clear hs hld
            go_wp2_with fail
            refine (batches_texts hlg).mono ?_; rintro e w7 ⟨v7, o7, rfl, hs, hcl⟩
            have hlg := hlg.step hs (nn _) (nn _)
            have hd6 := hd6.step hs (nn _)
            have hkz := hkz.step hs (nn _)
            have hst := hst.trans hs.above0
            clear hs
            go_wp2_with fail
            refine hcl.mono ?_; rintro e w8 ⟨v8, o8, rfl, hs, hs1⟩
            have hlg := hlg.step hs (nn _) (nn _)
            have hd6 := hd6.step hs (nn _)
            have hkz := hkz.step hs (nn _)
            have hst := hst.trans hs.above0
            clear hs hcl
            obtain ⟨_, _, hw3, _, hw5, hw6, _⟩ := hlg.wf
            have heq := equal_is hs1 hkz (by omega) true (by simp)
            clear hs1 hw3 hw5 hw6
            go_wp2_with fail
            refine heq.mono ?_; rintro e w9 ⟨v9, o9, rfl, hs, rfl⟩
            have hlg := hlg.step hs (nn _) (nn _)
            have hd6 := hd6.step hs (nn _)
            have hkz := hkz.step hs (nn _)
            have hst := hst.trans hs.above0
            clear hs heq
            go_wp2_with fail
            go_roundw
            case rel => exact ⟨j + 1, o9, _, _, (s'.1, s'.2.fuse (-1)), by omega, by go_num, rfl, ⟨hlg, hd6⟩, hst, mL, hLD, hkz, hGz.out, hlz.out, hnz.out, hfz.out, hpz.out⟩
            case measure => simp [intOf]; omega
          · have hg6 : ∀ fates, LogM.Back (257 * j + 257) s.1.first s.1.n dF (s'.2.restart fates) s.1.records [] := fun f => ⟨(hg6 f).good.mono (by omega), (hg6 f).left, (hg6 f).oth, (hg6 f).recs⟩
            go_wp2_with fail
            have hnx := hnxH2.out
            have hkpF := hkpFH.out
            refine (hact.out _ 9 hc).mono ?_; rintro e w5 ⟨v5, o5, rfl, hs, rfl, hld⟩
            have hkq := hkpF.step hs nL0
            have hnq := hnx.step hs nL0
            have hst := hst.trans (hs.above2 mL mD)
            have hB := hg6 fates
            obtain ⟨d2, hd2⟩ : ∃ d2, s'.2.restart fates = d2 := ⟨_, rfl⟩
            rw [hd2] at hB
            have hff := hfH.out.step hst hT0
            have hre := restart_is hld.2 hD0 (by omega) (.slice fa fl fc) fates hff hfwH.out hd2
            have hlx := hld.1
            have hBH := hidden hB
            have hdeadH := hidden hg2
            clear hact hnx hs hc hldF hkpF hg2 hg3 hg4 hg6 hd2 hB hff hld hgl
            obtain ⟨L', mL', hLD', hLL'⟩ := hpick L
            have hL0' : L' ≠ 0 := by omega
            have oL0' : ¬ Only L' 0 := fun h => by change _ = _ at h; omega
            have oLL' : ¬ Only L' L := fun h => hLL' h.symm
            have oLD' : ¬ Only L' D := fun h => hLD' h.symm
            have nDL' : ¬ Only D L' := fun h => hLD' h
            go_wp2_with fail
            refine hre.mono ?_; rintro e w6 ⟨v6, o6, rfl, hs, rfl, hd6⟩
            have hlx := hlx.step hs nDL nD0
            have hkq := hkq.step hs nD0
            have hnq := hnq.step hs nD0
            have hst := hst.trans (hs.above1 mD)
            have hbk := hBH.out.good
            have hbo := hBH.out.oth
            rw [hf0.out, hn.out] at hbk hbo
            have hop := open_yes hL0' hD0 hLD' hd6 (by rw [hbk.row]; simp) hbk.dd 0 k hk2 (by omega) (by rw [hbo.1, hplF.out]; omega)
            have hnw : LogM.newest (LogM.seenPages d2 0 k) ≠ BitVec.allOnes 64 := by
              have h1 := hbk.stamp_le
              have h2 : (LogM.ofPages 0 (LogM.seenPages d2 0 k)).stamp = LogM.newest (LogM.seenPages d2 0 k) := rfl
              rw [h2] at h1
              intro h; rw [h] at h1; simp at h1; omega
            have hnwH := hidden hnw
            have hpl2 := hidden (hbo.1.trans hplF.out)
            have hbkH := hidden hbk
            rw [← hkiH.out] at hop
            have hop' : Calls Try.prog 38 #[.pointer (some ⟨pd, 0, none⟩), .int .i64 0, .int .i64 (2 + (N : Int) % 19)] w6 (Ret (Only L') w6 o6 fun v w' o' => Opened w6 w' o' L' pd 0 (LogM.seenPages d2 0 k) v) := hop
            clear hs hre hbk hbo hop hnw
            go_wp2_with fail
            refine hop'.mono ?_; rintro e w7 ⟨v7, o7, rfl, hs, hopd⟩
            obtain ⟨py, -, rfl, hly⟩ := hopd.2 hnwH.out
            have hlx := hlx.step hs oLL' oL0'
            have hd6 := hd6.step hs oLD'
            have hkq := hkq.step hs oL0'
            have hnq := hnq.step hs oL0'
            have hst := hst.trans (hs.above1 mL')
            have hcd := commit_dead (⟨hlx, hd6⟩ : LD w7 o7 L D px pd (s'.1, d2)) (by show (s'.1.dead || d2.dead) = true; rw [hdeadH.out]; rfl) none 0 0
            clear hs hopd hop'
            go_wp2_with fail
            refine hcd.mono ?_; rintro e w8 ⟨v8, o8, rfl, hs, rfl⟩
            have hly := hly.step hs (nn _) (nn _)
            have hd6 := hd6.step hs (nn _)
            have hkq := hkq.step hs (nn _)
            have hnq := hnq.step hs (nn _)
            have hst := hst.trans hs.above0
            clear hs hcd hlx
            obtain ⟨y, hy⟩ : ∃ y, LogM.ofPages 0 (LogM.seenPages d2 0 k) = y := ⟨_, rfl⟩
            have hrec := hBH.out.recs
            rw [hf0.out, hn.out, hy] at hrec
            rw [hy] at hly
            have hgy := hbkH.out
            rw [hy] at hgy
            have hGz : Hid (LogM.Good (257 * (j + 1)) (y, d2.fuse (-1))) := hidden ((LogM.Good.fuse hgy (-1) (by omega)).mono (by omega))
            have hlz : Hid ((d2.fuse (-1)).left < 0) := hidden (by rw [LogM.fuse_left hgy.dd]; omega)
            have hnz : Hid (y.n = k) := hidden (by rw [← hy]; exact LogM.seen_n 0 k d2)
            have hfz : Hid (y.first = 0) := hidden (by rw [← hy]; rfl)
            have hpz : Hid ((d2.fuse (-1)).pages.length = k) := hidden (by rw [DiskM.fuse_pages]; exact hpl2.out)
            have hld : LD w8 o8 L' D py pd (y, d2) := ⟨hly, hd6⟩
            clear hgy hy hly hd6 hbkH hBH hnwH hpl2 hdeadH
            go_wp2_with fail
            refine (batches_texts hld.1).mono ?_; rintro e w9 ⟨v9, o9, rfl, hs, hcl⟩
            have hld := hld.step hs (nn _) (nn _) (nn _)
            have hkq := hkq.step hs (nn _)
            have hnq := hnq.step hs (nn _)
            have hst := hst.trans hs.above0
            clear hs
            go_wp2_with fail
            refine hcl.mono ?_; rintro e wa ⟨va, oa, rfl, hs, hs1⟩
            have hld := hld.step hs (nn _) (nn _) (nn _)
            have hkq := hkq.step hs (nn _)
            have hnq := hnq.step hs (nn _)
            have hst := hst.trans hs.above0
            clear hs hcl
            obtain ⟨_, _, hw3, _, hw5, hw6, _⟩ := hld.1.wf
            dsimp only at hw3 hw5 hw6
            have hyl : y.records.length ≤ 1000000 := by omega
            clear hw3 hw5 hw6
            by_cases hE : y.records = ([] : List (List UInt8))
            · have heq := equal_is hs1 (l2 := ([] : List (List UInt8))) hnq hyl true (by rw [hE]; simp)
              rw [← hE] at hnq
              clear hs1 hyl hrec hkq
              go_wp2_with fail
              refine heq.mono ?_; rintro e wb ⟨vb, ob, rfl, hs, rfl⟩
              have hld := hld.step hs (nn _) (nn _) (nn _)
              have hkz := hnq.step hs (nn _)
              have hst := hst.trans hs.above0
              clear hs heq hnq hE
              go_wp2_with fail
              refine (fuse_any hld.2 (-1) (by omega)).mono ?_; rintro e w6 ⟨v6, o6, rfl, hs, rfl, hd6⟩
              have hlg := hld.1.step hs nDL' nD0
              have hkz := hkz.step hs nD0
              have hst := hst.trans (hs.above1 mD)
              clear hs hld
              go_wp2_with fail
              refine (batches_texts hlg).mono ?_; rintro e w7 ⟨v7, o7, rfl, hs, hcl⟩
              have hlg := hlg.step hs (nn _) (nn _)
              have hd6 := hd6.step hs (nn _)
              have hkz := hkz.step hs (nn _)
              have hst := hst.trans hs.above0
              clear hs
              go_wp2_with fail
              refine hcl.mono ?_; rintro e w8 ⟨v8, o8, rfl, hs, hs1⟩
              have hlg := hlg.step hs (nn _) (nn _)
              have hd6 := hd6.step hs (nn _)
              have hkz := hkz.step hs (nn _)
              have hst := hst.trans hs.above0
              clear hs hcl
              obtain ⟨_, _, hw3, _, hw5, hw6, _⟩ := hlg.wf
              have heq := equal_is hs1 hkz (by omega) true (by simp)
              clear hs1 hw3 hw5 hw6
              go_wp2_with fail
              refine heq.mono ?_; rintro e w9 ⟨v9, o9, rfl, hs, rfl⟩
              have hlg := hlg.step hs (nn _) (nn _)
              have hd6 := hd6.step hs (nn _)
              have hkz := hkz.step hs (nn _)
              have hst := hst.trans hs.above0
              clear hs heq
              go_wp2_with fail
              go_roundw
              case rel => exact ⟨j + 1, o9, _, _, (y, d2.fuse (-1)), by omega, by go_num, rfl, ⟨hlg, hd6⟩, hst, mL', hLD', hkz, hGz.out, hlz.out, hnz.out, hfz.out, hpz.out⟩
              case measure => simp [intOf]; omega
            · have hR2 : y.records = s.1.records := by
                rcases hrec with h | h
                · exact h
                · exact (hE h).elim
              have heq := equal_is hs1 (l2 := ([] : List (List UInt8))) hnq hyl false (by rw [beq_eq_false_iff_ne]; exact hE)
              have hkq : Slc wa oa (.slice ka rl kc) y.records.length (tvs y.records) := by rw [hR2, hrlH.out]; exact hkq
              clear hs1 hyl hrec hnq
              go_wp2_with fail
              refine heq.mono ?_; rintro e wb ⟨vb, ob, rfl, hs, rfl⟩
              have hld := hld.step hs (nn _) (nn _) (nn _)
              have hkz := hkq.step hs (nn _)
              have hst := hst.trans hs.above0
              clear hs heq hkq hE hR2
              go_wp2_with fail
              refine (fuse_any hld.2 (-1) (by omega)).mono ?_; rintro e w6 ⟨v6, o6, rfl, hs, rfl, hd6⟩
              have hlg := hld.1.step hs nDL' nD0
              have hkz := hkz.step hs nD0
              have hst := hst.trans (hs.above1 mD)
              clear hs hld
              go_wp2_with fail
              refine (batches_texts hlg).mono ?_; rintro e w7 ⟨v7, o7, rfl, hs, hcl⟩
              have hlg := hlg.step hs (nn _) (nn _)
              have hd6 := hd6.step hs (nn _)
              have hkz := hkz.step hs (nn _)
              have hst := hst.trans hs.above0
              clear hs
              go_wp2_with fail
              refine hcl.mono ?_; rintro e w8 ⟨v8, o8, rfl, hs, hs1⟩
              have hlg := hlg.step hs (nn _) (nn _)
              have hd6 := hd6.step hs (nn _)
              have hkz := hkz.step hs (nn _)
              have hst := hst.trans hs.above0
              clear hs hcl
              obtain ⟨_, _, hw3, _, hw5, hw6, _⟩ := hlg.wf
              have heq := equal_is hs1 hkz (by omega) true (by simp)
              clear hs1 hw3 hw5 hw6
              go_wp2_with fail
              refine heq.mono ?_; rintro e w9 ⟨v9, o9, rfl, hs, rfl⟩
              have hlg := hlg.step hs (nn _) (nn _)
              have hd6 := hd6.step hs (nn _)
              have hkz := hkz.step hs (nn _)
              have hst := hst.trans hs.above0
              clear hs heq
              go_wp2_with fail
              go_roundw
              case rel => exact ⟨j + 1, o9, _, _, (y, d2.fuse (-1)), by omega, by go_num, rfl, ⟨hlg, hd6⟩, hst, mL', hLD', hkz, hGz.out, hlz.out, hnz.out, hfz.out, hpz.out⟩
              case measure => simp [intOf]; omega
        · have hnx : Slc w3 o3 (.slice none 0 0) ([] : List (List UInt8)).length (tvs []) := .inl ⟨⟨_, _, rfl⟩, rfl, rfl⟩
          have hldF : LD w3 o3 L D px pd (s.1, s.2) := hld
          have hb4 := hbH.out
          have hkpF := hkpH.out
          have hGF : Hid (LogM.Good (257 * j) (s.1, s.2)) := hG
          have hplF := hpl
          have hlt0 : s.2.left < 0 := hle.out
          obtain ⟨dF, hdF⟩ : ∃ dF, s.2 = dF := ⟨_, rfl⟩
          rw [hdF] at hldF hGF hplF hlt0
          clear hld hdF
          have hrowF : dF.row.length ≤ 700000 := by have := hGF.out.row; simp only at this; rw [this]; simp
          have hact : ∀ s' e, LogM.reset (s.1, dF) = (s', e) → Calls Try.prog 43 #[.pointer (some ⟨px, 0, none⟩)] w3 (Ret (In L D) w3 o3 fun v w' o' => v = .int .i64 e ∧ LD w' o' L D px pd s') :=
            fun s' e he => reset_is hL0 hD0 hLD hldF hrowF he
          have hgl := hidden hact
          clear hact
          have hact := hgl
          have hnxH2 := hidden hnx
          have hkpFH := hidden hkpF
          clear hnx hkpF
          clear hrowF hb4
          rcases LogM.reset_cases hGF.out (by omega) with ⟨s', hc, hg1, hg2, -, hg4, hg5, hg6, -⟩ | ⟨hg0, s', hc, hg2, hg3, hg4, -, -, hg6⟩
          · have hg1 := hg1.mono (show 257 * j + 1 ≤ 257 * j + 2 by omega)
            go_wp2_with fail
            have hnx := hnxH2.out
            refine (hact.out _ 0 hc).mono ?_; rintro e w5 ⟨v5, o5, rfl, hs, rfl, hld⟩
            have hkz := hnx.step hs nL0
            have hst := hst.trans (hs.above2 mL mD)
            have hGz : Hid (LogM.Good (257 * (j + 1)) (s'.1, s'.2.fuse (-1))) := hidden ((LogM.Good.fuse (l := s'.1) (d := s'.2) hg1 (-1) (by omega)).mono (by omega))
            have hlz : Hid ((s'.2.fuse (-1)).left < 0) := hidden (by rw [LogM.fuse_left hg1.dd]; omega)
            have hnz : Hid (s'.1.n = k) := hidden (hg4.trans hn.out)
            have hfz : Hid (s'.1.first = 0) := hidden (hg5.trans hf0.out)
            have hpz : Hid ((s'.2.fuse (-1)).pages.length = k) := hidden (by rw [DiskM.fuse_pages]; exact hg6.1.trans hplF.out)
            rw [← hg2] at hkz
            clear hact hnx hs hg1 hg2 hg4 hg5 hg6 hc hldF hgl
            go_wp2_with fail
            refine (fuse_any hld.2 (-1) (by omega)).mono ?_; rintro e w6 ⟨v6, o6, rfl, hs, rfl, hd6⟩
            have hlg := hld.1.step hs nDL nD0
            have hkz := hkz.step hs nD0
            have hst := hst.trans (hs.above1 mD)
            clear hs hld
            go_wp2_with fail
            refine (batches_texts hlg).mono ?_; rintro e w7 ⟨v7, o7, rfl, hs, hcl⟩
            have hlg := hlg.step hs (nn _) (nn _)
            have hd6 := hd6.step hs (nn _)
            have hkz := hkz.step hs (nn _)
            have hst := hst.trans hs.above0
            clear hs
            go_wp2_with fail
            refine hcl.mono ?_; rintro e w8 ⟨v8, o8, rfl, hs, hs1⟩
            have hlg := hlg.step hs (nn _) (nn _)
            have hd6 := hd6.step hs (nn _)
            have hkz := hkz.step hs (nn _)
            have hst := hst.trans hs.above0
            clear hs hcl
            obtain ⟨_, _, hw3, _, hw5, hw6, _⟩ := hlg.wf
            have heq := equal_is hs1 hkz (by omega) true (by simp)
            clear hs1 hw3 hw5 hw6
            go_wp2_with fail
            refine heq.mono ?_; rintro e w9 ⟨v9, o9, rfl, hs, rfl⟩
            have hlg := hlg.step hs (nn _) (nn _)
            have hd6 := hd6.step hs (nn _)
            have hkz := hkz.step hs (nn _)
            have hst := hst.trans hs.above0
            clear hs heq
            go_wp2_with fail
            go_roundw
            case rel => exact ⟨j + 1, o9, _, _, (s'.1, s'.2.fuse (-1)), by omega, by go_num, rfl, ⟨hlg, hd6⟩, hst, mL, hLD, hkz, hGz.out, hlz.out, hnz.out, hfz.out, hpz.out⟩
            case measure => simp [intOf]; omega
          · (exfalso; simp only at hg0; omega)
    · have hjl : j = ll := by omega
      subst hjl
      have hwk := wakes8_any wr oj
      go_wp2_with fail
      refine hwk.mono ?_; rintro e w9 ⟨v9, o9, rfl, hs, rfl⟩
      have hst := (hst.trans hs.above0).noneAbove hM
      clear hwk hs
      go_wp2_with fail
      go_ret
      exact ⟨_, o9, rfl, hst, rfl⟩
theorem logPower_walk {w : World} {o : Own} (n : Int) (hn0 : 0 ≤ n) (hn1 : n ≤ 255) {v fv : Value} {l : List Try8} {fates : List Int} (hl : Tries8 w o v l) (hf : Ints w o fv fates) (hfw : ∀ a ∈ fates, -9223372036854775808 ≤ a ∧ a ≤ 9223372036854775807) :
    Calls Try.prog 13 #[.int .u8 n, v, fv] w (Ret Nobody w o fun v _ _ => v = .bool true) := by
  by_cases hm : 40 < l.length ∨ 60 < fates.length
  · exact logPower_many n hl hf hm
  · exact logPower_main n hn0 hn1 hl hf hfw (fun h => hm (.inl h)) (fun h => hm (.inr h))
end Go.Proofs.YtfgggkheadfiaaaR
