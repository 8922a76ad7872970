/- The statement StoreNil: the walk. -/
import Derived.Test.YtfgggkheadfiaaaRSq2
import Derived.Test.YtfgggkheadfiaaaRSq11
namespace Go.Proofs.YtfgggkheadfiaaaR
open Go Go.RowKit
attribute [local go_sem ↓] Go.wp_at_zero Go.wp_at_succ
/-- append onto a row of one byte that is full: a new row. -/
theorem append_grow1 (W : World) (g0 : Nat) (x : UInt8) (hg : W.rangeAt g0 0 [bv x]) (b off m c : Nat) (news : List UInt8) (hl : news.length = m) (hr : W.rangeAt b off (bvs news)) (hm : 0 < m) (h63 : m ≤ 100000) :
    ∃ cap w' cur, (Builtin.append_ #[28, 28] 28 #[.slice (some ⟨g0, 0, none⟩) 1 1, .slice (some ⟨b, off, none⟩) m c]).run Try.prog W = .ok (.slice (some ⟨W.heap.size, 0, none⟩) (1 + m) cap) w' ∧ 1 + m ≤ cap ∧ cap ≤ maxLen ∧
      w'.heap[W.heap.size]? = some (.cells (cur : List Value).toArray 5 (0, 0)) ∧ w'.rangeAt W.heap.size 0 (bvs (x :: news)) ∧ Below W.heap.size W w' ∧ W.heap.size < w'.heap.size := by
  have hi : (Try.prog.info? 5).map (fun i => (i.zero.map (fun z => z.cells.toList), i.size, i.bytes)) = some (some [.int .u8 0], 1, 1) := inf5
  obtain ⟨i, z, hq, hz, e2, e3, e4⟩ := info_of hi
  have hsrc : Src Try.prog i.size 28 (.slice (some ⟨b, off, none⟩) m c) m (bvs news) W := by
    rw [e2]; exact Src.ofSlice W Try.underlying28 ⟨b, off, none⟩ m c (bvs news) (by rw [length_bvs, hl, Nat.mul_one]) (fun j u hu => by rw [Addr.add_mid]; exact hr j u hu) (one_bvs news)
  have hold : (Builtin.firstCells i.size 1 (.slice (some ⟨g0, 0, none⟩) 1 1)).run Try.prog W.drew = .ok [bv x].toArray W.drew := by
    rw [e2]; exact run_firstCells_some W.drew 1 1 ⟨g0, 0, none⟩ 1 1 [bv x] (by simp) (fun j v hj => by rw [Addr.add_mid]; exact hg j v hj)
  have hnext : Builtin.nextslicecap (1 + m) 1 ≤ 200000 * 2 := by
    unfold Builtin.nextslicecap
    split <;> (try split) <;> omega
  have hrun := run_append_grow_src (P := Try.prog) W 28 28 28 5 i z Try.underlying28 hq hz (some ⟨g0, 0, none⟩) 1 1 [bv x] hold (.slice (some ⟨b, off, none⟩) m c) m (bvs news) hsrc (by omega) (by omega) (by rw [e3]; omega)
  refine ⟨_, _, (([bv x] ++ bvs news).toArray ++ Builtin.zeroCells z.cells (grownCap W (1 + m) 1 5 - (1 + m))).toList, hrun, grownCap_ge _ _ _ _, grownCap_le_maxLen _ _ _ _ (by simp only [maxLen]; omega), by rw [Array.toArray_toList]; exact heap_alloc_new W.drew _, ?_, ⟨rfl, rfl, rfl, by simp, fun k hk => Below.heap_alloc _ _ _ (by simpa using hk)⟩, by simp⟩
  have hh := range_of_block (w := W.drew.alloc (.cells (([bv x] ++ bvs news).toArray ++ Builtin.zeroCells z.cells (grownCap W (1 + m) 1 5 - (1 + m))) 5)) (b := W.heap.size) (cs := (([bv x] ++ bvs news).toArray ++ Builtin.zeroCells z.cells (grownCap W (1 + m) 1 5 - (1 + m))).toList) (E := 5) (fr := (0, 0)) (by rw [Array.toArray_toList]; exact heap_alloc_new W.drew _) 0 (1 + m)
  rw [List.drop_zero] at hh
  simp only [Array.toList_append] at hh
  rw [List.take_left' (by simp [hl]; omega)] at hh
  exact hh
theorem StoreAt.setOther {w : World} {o : Own} {S A B D ps pd base : Nat} {s : StoreM} (ht : Tags S A B D) (h : StoreAt w o S A B D ps pd base s) {g i : Nat} (v : Value) (hg : o g = (0, 0)) (hb : g < base) : StoreAt (w.setCell ⟨g, i, none⟩ v) o S A B D ps pd base s := by
  obtain ⟨X, Y, pa, pb, k, kv, hp, hbx, hl, ha, hbb, hd⟩ := h
  have s0 : Step (Only 0) w o (w.setCell ⟨g, i, none⟩ v) o := (Step.refl (Only 0) w o).setCell (a := ⟨g, i, none⟩) v (.inl (by rw [hg]; rfl))
  have hX0 : X ≠ 0 := by rcases hp with ⟨rfl, -⟩ | ⟨rfl, -⟩; exact ht.a0; exact ht.b0
  have hY0 : Y ≠ 0 := by rcases hp with ⟨-, rfl⟩ | ⟨-, rfl⟩; exact ht.b0; exact ht.a0
  refine ⟨X, Y, pa, pb, k, kv, hp, hbx.step s0 (fun h => ht.s0 h), ?_, ha.setOther hX0 v hg, hbb.setOther hY0 v hg, hd.step s0 (fun h => ht.d0 h)⟩
  obtain ⟨cs, h1, h2, h3, h4⟩ := hl
  have key : ∀ {u : Value} {n : Nat} {xs : List Value}, Slc w o u n xs → Fresh base u → Slc (w.setCell ⟨g, i, none⟩ v) o u n xs := fun hs hf => by
    rcases hs with h | ⟨b, off, cap, rfl, q1, q2, q3, q4, q5⟩
    · exact .inl h
    · have := hf b rfl
      exact .inr ⟨b, off, cap, rfl, q1, q2, q3, by simpa using q4, range_same q5 (Below.heap_setCell _ _ _ _ (by show b ≠ g; omega))⟩
  refine ⟨cs, key h1 h3, ⟨h2.1, fun j x hx => ?_⟩, h3, h4⟩
  obtain ⟨m1, bw, m2, m3⟩ := h2.2 j x hx
  exact ⟨m1, bw, m2, key m3 (h4 bw (List.mem_of_getElem? m2))⟩
theorem nil_step {tx : List UInt8} (h1 : 1 ≤ tx.length) (h501 : tx.length ≤ 501) : ∃ s1, (newS 20).adopt 1#64 [⟨1#64, tx⟩] = (s1, 0) ∧ SG 3 10 s1 ∧ s1.kept = ⟨1#64, 1#64, [⟨1#64, tx⟩]⟩ ∧ s1.d.pages.length = 20 := by
  have hb : badL 1#64 ⟨1#64, tx⟩ = false := by
    unfold badL
    have q1 : (1#64 : BitVec 64).toNat = 1 := rfl
    simp only [q1]
    rw [decide_eq_false (show ¬ (1 : Nat) < 1 by omega), decide_eq_false (show ¬ tx.length < 1 by omega), decide_eq_false (show ¬ 4096 < tx.length by omega)]; rfl
  have hao : (newS 20).kept.adoptOk 1#64 [⟨1#64, tx⟩] = true := by
    unfold KeptM.adoptOk newS
    simp only [List.any_cons, hb, List.any_nil, List.length_cons, List.length_nil]
    rfl
  have hn : (newS 20).kept.next ⟨1, 1#64, [⟨1#64, tx⟩]⟩ = (⟨1#64, 1#64, [⟨1#64, tx⟩]⟩, 0) := by
    show KeptM.adoptD _ _ _ = _
    unfold KeptM.adoptD; rw [if_pos hao]
  obtain ⟨s1, a1, g1, k1, p1, l1⟩ := act_ok (n := 20) (newS_sg (n := 20) (by omega) (by omega)) (by show (-1 : Int) < 0; omega) (by omega) (s := newS 20) KOk.zero ⟨1, 1#64, [⟨1#64, tx⟩]⟩ (by rw [hn]) rfl (by
    rw [hn]; unfold KeptM.fits fitsN
    apply decide_eq_true
    simp [bytesL]; omega)
  rw [hn] at k1
  exact ⟨s1, a1, g1, k1, by rw [p1]; simp [newS, DiskM.new]⟩
set_option maxRecDepth 100000 in
set_option maxHeartbeats 12800000 in
theorem storeNil_main {w : World} {o : Own} (e : BitVec 64) {v : Value} {l : List UInt8} (hl : Bytes w o v l) (h500 : l.length ≤ 500) :
    Calls Try.prog 16 #[.int .u64 (e.toNat : Int), v] w (Ret Nobody w o fun v _ _ => v = .bool true) := by
  obtain ⟨M, -, hM⟩ := tag_bound o 0 w.heap.size
  have nn : ∀ k, ¬ Nobody k := fun _ h => h
  have hT0 : ¬ Above M 0 := fun h => by change M < 0 at h; omega
  obtain ⟨D, hD⟩ : ∃ D, D = M + 1 := ⟨_, rfl⟩
  have hD0 : D ≠ 0 := by omega
  have ht := tags_new (Mx := D) (D := D) (Nat.le_refl _) hD0
  have h4 := in4_above (M := M) (Mx := D) (D := D) (by omega) (by omega)
  have hAD : ∀ k, Above D k → Above M k := fun k hk => by change D < k at hk; show M < k; omega
  obtain ⟨ba, bc, rfl⟩ := slc_form hl
  obtain ⟨tx, htx⟩ : ∃ tx, 120 :: l = tx := ⟨_, rfl⟩
  obtain ⟨N, hN⟩ : ∃ N, l.length = N := ⟨_, rfl⟩
  have htl : tx.length = 1 + N := by rw [← htx, List.length_cons, hN]; omega
  have hlH := hidden (show Bytes w o (.slice ba N bc) l from hN ▸ hl)
  rw [hN] at h500 ⊢
  obtain ⟨s1, a1, g1, q1, p1⟩ := nil_step (tx := tx) (by omega) (by omega)
  have g0 := newS_sg (n := 20) (by omega) (by omega)
  have k1 : KOk s1.kept := by rw [q1]; exact ⟨by simp, by simp; omega⟩
  have hNI : ¬ (500 : Int) < (N : Int) := by omega
  have htxH := hidden (And.intro htx (And.intro hN htl))
  clear hl hN hD htx htl
  have hko : Calls Try.prog 64 #[.pointer none] w (Ret Nobody w o fun v _ _ => v = .agg #[.int .u64 0, .int .u64 0, .slice none 0 0]) := skept_nil w o
  have hop := sopen_nil w o
  go_enter Try.func16, Try.ntmps16
  go_wp2_with fail
  refine hop.mono ?_; rintro e1 W0 ⟨v, o0, rfl, hs, rfl⟩
  have hst := hs.above0 (M := M)
  have hko : Calls Try.prog 64 #[.pointer none] W0 (Ret Nobody W0 o0 fun v _ _ => v = .agg #[.int .u64 0, .int .u64 0, .slice none 0 0]) := skept_nil W0 o0
  clear hop hs
  go_wp2_with fail
  refine hko.mono ?_; rintro e1 W1 ⟨v, o1, rfl, hs, rfl⟩
  have hst := hst.trans (hs.above0 (M := M))
  clear hko hs
  have hal := hidden (run_alloc_zero (P := Try.prog) W1 108 _ zc108)
  have hsw := setCells_alloc_whole W1 #[.int .u64 0, .int .u64 0, .slice none 0 0] 108 [.int .u64 0, .int .u64 0, .slice none 0 0] rfl
  obtain ⟨hso, -⟩ := run_store_agg (P := Try.prog) (ty := 108) (vs := [.int .u64 0, .int .u64 0, .slice none 0 0]) (heap_alloc_new W1 (.cells [.int .u64 0, .int .u64 0, .slice none 0 0].toArray 108)) rfl (by kernel_rfl) rfl
  rw [hsw] at hso
  have hsoH := hidden hso
  have sE := (Step.refl Nobody W1 o1).alloc (.cells [.int .u64 0, .int .u64 0, .slice none 0 0].toArray 108) (0, 0)
  have bE : (W1.alloc (.cells [.int .u64 0, .int .u64 0, .slice none 0 0].toArray 108)).heap[W1.heap.size]? = some (.cells [.int .u64 0, .int .u64 0, .slice none 0 0].toArray 108 (0, 0)) := heap_alloc_new W1 _
  have zE : (W1.alloc (.cells [.int .u64 0, .int .u64 0, .slice none 0 0].toArray 108)).heap.size = W1.heap.size + 1 := by simp
  obtain ⟨W2, hWE⟩ : ∃ W2, W1.alloc (.cells [.int .u64 0, .int .u64 0, .slice none 0 0].toArray 108) = W2 := ⟨_, rfl⟩
  obtain ⟨o2, hOE⟩ : ∃ o2, tagAt o1 W1.heap.size (0, 0) = o2 := ⟨_, rfl⟩
  rw [hWE] at hsoH sE bE zE
  try rw [hWE] at hal
  rw [hOE] at sE
  clear hsw hso hWE hOE
  have c0 := cell_of_block bE 0
  have c1 := cell_of_block bE 1
  have c2 := cell_of_block bE 2
  simp only [List.getElem?_cons_zero, List.getElem?_cons_succ] at c0 c1 c2
  have hst := hst.trans (sE.above0 (M := M))
  have hp := spromise_nil e W2 o2
  clear sE bE zE
  go_wp2_with (first
    | ((with_reducible refine lit_alloc_at hal.out ?_); simp only [Act.put, List.setIfInBounds_toArray, List.set_cons_zero, List.set_cons_succ])
    | ((with_reducible refine lit_store_at hsoH.out ?_ ?_ ?_); rfl; rfl; simp only [Act.put]))
  refine hp.mono ?_; rintro e1 W3 ⟨v, o3, rfl, hs, rfl⟩
  have hst := hst.trans (hs.above0 (M := M))
  have hp := sadopt_nil e none 0 0 W3 o3
  clear hs hal hsoH c0 c1 c2
  go_wp2_with fail
  refine hp.mono ?_; rintro e1 W4 ⟨v, o4, rfl, hs, rfl⟩
  have hst := hst.trans (hs.above0 (M := M))
  have hp := sappend_nil none 0 0 W4 o4
  clear hs
  go_wp2_with fail
  refine hp.mono ?_; rintro e1 W5 ⟨v, o5, rfl, hs, rfl⟩
  have hst := hst.trans (hs.above0 (M := M))
  have hp := sdead_nil W5
  clear hs
  go_wp2_with fail
  refine hp.mono ?_; rintro e1 W5' ⟨rfl, rfl⟩
  have hnew := new_ok 20 W5 o5 D (by omega) (by omega)
  clear hp
  go_wp2_with fail
  refine hnew.mono ?_; rintro e1 W6 ⟨v, o6, rfl, hs, pd, -, rfl, hd⟩
  have hst := hst.trans (hs.above0 (M := M))
  have hop := opens_any D (Nat.le_refl _) hD0 g0 (by omega) (by simp [newS, DiskM.new]) (t := newS 20) hd
  clear hnew hs hd
  go_wp2_with fail
  refine hop.mono ?_; rintro e1 W7 ⟨v, o7, rfl, hs, ps, rfl, ha⟩
  have hst := hst.trans (hs.mono hAD)
  clear hop hs
  -- what goes in
  have hw7 := hst.size
  have s8 := (Step.refl Nobody W7 o7).alloc (.cells (bvs [120]).toArray 5 (1, 2)) (0, 0)
  have h8 : (W7.alloc (.cells (bvs [120]).toArray 5 (1, 2))).heap[W7.heap.size]? = some (.cells (bvs [120]).toArray 5 (1, 2)) := heap_alloc_new W7 _
  have r8 := range_whole (fr := (1, 2)) h8
  have t8 : tagAt o7 W7.heap.size (0, 0) W7.heap.size = (0, 0) := tagAt_same _ _ _
  have hcv : (convert 28 28 (.slice (some ⟨W7.heap.size, 0, none⟩) 1 1)).run Try.prog (W7.alloc (.cells #[.int .u8 120] 5)) = .ok (.slice (some ⟨W7.heap.size, 0, none⟩) 1 1) (W7.alloc (.cells #[.int .u8 120] 5 (1, 2))) := conv_marked W7 [.int .u8 120] 1 1
  have z8 : (W7.alloc (.cells (bvs [120]).toArray 5 (1, 2))).heap.size = W7.heap.size + 1 := by simp
  have hcvE : (W7.alloc (.cells #[.int .u8 120] 5 (1, 2))) = W7.alloc (.cells (bvs [120]).toArray 5 (1, 2)) := rfl
  obtain ⟨W8, hW8⟩ : ∃ W8, W7.alloc (.cells (bvs [120]).toArray 5 (1, 2)) = W8 := ⟨_, rfl⟩
  rw [hW8] at s8 h8 r8 z8 hcvE
  rw [hcvE] at hcv
  obtain ⟨o8, ho8⟩ : ∃ o8, tagAt o7 W7.heap.size (0, 0) = o8 := ⟨_, rfl⟩
  rw [ho8] at s8 t8
  have hstX := hst.trans (s8.above0 (M := M))
  have key : ∃ gi cap W9 o9, (Builtin.append_ #[28, 28] 28 #[.slice (some ⟨W7.heap.size, 0, none⟩) 1 1, .slice ba N bc]).run Try.prog W8 = .ok (.slice (some ⟨gi, 0, none⟩) (1 + N) cap) W9 ∧ Step Nobody W7 o7 W9 o9 ∧ Bytes W9 o9 (.slice (some ⟨gi, 0, none⟩) (1 + N) cap) tx ∧ o9 gi = (0, 0) ∧ gi < W9.heap.size ∧ W7.heap.size ≤ gi ∧ W9.frozen? ⟨gi, 0, none⟩ = false := by
    obtain ⟨e1, e2, e3⟩ := htxH.out
    by_cases h0 : N = 0
    · subst h0
      have hl0 := List.eq_nil_of_length_eq_zero e2
      refine ⟨W7.heap.size, 1, W8, o8, run_append_none (P := Try.prog) W8 28 28 5 1 Try.underlying28 (by kernel_rfl) (some ⟨W7.heap.size, 0, none⟩) ba 1 1 bc (Nat.le_refl _) (by omega), s8, ?_, t8, by omega, Nat.le_refl _, by simp [World.frozen?, h8]⟩
      subst hl0
      rw [← e1]
      exact .inr ⟨W7.heap.size, 0, 1, rfl, Nat.le_refl _, by simp [maxLen], by rw [t8], by omega, r8⟩
    · rcases (hlH.out.step hstX hT0).cases with ⟨_, h1⟩ | ⟨b, off, cap, hv, x1, x2, x3, x4, x5⟩
      · rw [h1] at e2; simp at e2; omega
      · simp only [Value.slice.injEq] at hv
        obtain ⟨rfl, -, -⟩ := hv
        obtain ⟨cp, w', cur, hrun, hc1, hc2, hh, hr, hbl, hsz⟩ := append_grow1 W8 W7.heap.size 120 r8 b off N bc l e2 x5 (by omega) (by omega)
        refine ⟨W8.heap.size, cp, w', extT W8 o8 (0, 0), hrun, s8.trans (Step.ofBelow hbl _), .inr ⟨W8.heap.size, 0, cp, by rw [e3], by rw [e3]; exact hc1, hc2, by rw [extT_new (Nat.le_refl _)], hsz, by rw [← e1]; exact hr⟩, extT_new (Nat.le_refl _), hsz, by omega, free_of_block hh 0⟩
  obtain ⟨gi, cap, W9, o9, hrun, s9, hby, t9, hgl, hg7, hfz⟩ := key
  have hrunH := hidden hrun
  have hst := hst.trans (s9.above0 (M := M))
  have ha := ha.step0 s9
  have hbs := buildSlice93 W9 1 (.slice (some ⟨gi, 0, none⟩) (1 + N) cap)
  have sC := (Step.refl Nobody W9 o9).alloc (.cells [.int .u64 1, .slice (some ⟨gi, 0, none⟩) (1 + N) cap].toArray 113) (0, 0)
  have hln : Lines (W9.alloc (.cells [.int .u64 1, .slice (some ⟨gi, 0, none⟩) (1 + N) cap].toArray 113)) (tagAt o9 W9.heap.size (0, 0)) 0 (.slice (some ⟨W9.heap.size, 0, none⟩) 1 1) [⟨1#64, tx⟩] :=
    ⟨_, .inr ⟨W9.heap.size, 0, 1, rfl, Nat.le_refl _, by simp [maxLen], by rw [tagAt_same], by simp, range_whole (heap_alloc_new W9 _)⟩, LnC.single ⟨1#64, tx⟩ (hby.step sC (nn _)), Fresh.zero _, fun u _ => Fresh.zero u⟩
  obtain ⟨Wa, hWa⟩ : ∃ Wa, W9.alloc (.cells [.int .u64 1, .slice (some ⟨gi, 0, none⟩) (1 + N) cap].toArray 113) = Wa := ⟨_, rfl⟩
  obtain ⟨oa, hoa⟩ : ∃ oa, tagAt o9 W9.heap.size (0, 0) = oa := ⟨_, rfl⟩
  rw [hWa] at hbs sC hln
  rw [hoa] at sC hln
  have ha := ha.step0 sC
  have hst := hst.trans (sC.above0 (M := M))
  have ta : oa gi = (0, 0) := by rw [sC.own gi hgl]; exact t9
  have hga : gi < Wa.heap.size := Nat.lt_of_lt_of_le hgl sC.size
  have hfz9 : (W9.frozen? ⟨gi, 0, none⟩ = false) := hfz
  have hfza : Wa.frozen? ⟨gi, 0, none⟩ = false := by
    have := sC.block gi hgl (nn _)
    simp only [World.frozen?, this] at hfz9 ⊢; exact hfz9
  have cga : Wa.cell? ⟨gi, 0, none⟩ = some (.int .u8 120) := by
    obtain ⟨e1, e2, e3⟩ := htxH.out
    rcases (hby.step sC (nn _)) with ⟨_, h0, -⟩ | ⟨b, off, cap', hv, -, -, -, -, hr⟩
    · omega
    · simp only [Value.slice.injEq, Option.some.injEq, Addr.mk.injEq] at hv
      obtain ⟨⟨rfl, rfl, -⟩, -, -⟩ := hv
      rw [← e1] at hr
      exact hr 0 _ rfl
  have hc := sadopt_any ht ha g0.rowOk g0.pgOk 1#64 _ [⟨1#64, tx⟩] hln (by simp) (fun hok => small_of (adoptOk_small hok).1 (adoptOk_small hok).2)
  rw [u64_1, a1] at hc
  have hcH := hidden (show Calls Try.prog 62 #[.pointer (some ⟨ps, 0, none⟩), .int .u64 1, .slice (some ⟨W9.heap.size, 0, none⟩) 1 1] Wa _ from hc)
  have hbsH := hidden hbs
  have hgw : w.heap.size ≤ gi := by omega
  clear hrun s9 hby t9 hgl hfz hfz9 hbs sC hln hWa hoa s8 h8 r8 t8 z8 hcvE hW8 ho8 hstX ha hc
  go_wp2_with (first
    | ((with_reducible apply lit_append); exact hrunH.out; simp only [Act.put, List.setIfInBounds_toArray, List.set_cons_zero, List.set_cons_succ])
    | ((with_reducible apply lit_buildSlice #[(0, .agg #[.int .u64 1, .slice (some ⟨gi, 0, none⟩) (1 + N) cap])] rfl); exact hbsH.out; simp only [Act.put, List.setIfInBounds_toArray, List.set_cons_zero, List.set_cons_succ]))
  refine hcH.out.mono ?_; rintro e1 Wb ⟨v, ob, rfl, hs, hwr⟩
  obtain ⟨rfl, ha⟩ := hwr
  have ha : StoreAt Wb ob (D + 1) (D + 2) (D + 3) D ps pd Wa.heap.size s1 := by rwa [if_pos rfl] at ha
  have hst := hst.trans (hs.mono h4)
  have nI0 := in4_0 ht
  have hgb := hs.block gi hga (by rw [ta]; exact nI0)
  have tb : ob gi = (0, 0) := by rw [hs.own gi hga]; exact ta
  have cgb : Wb.cell? ⟨gi, 0, none⟩ = some (.int .u8 120) := by rw [World.cell?_of_block (w := Wa) (a := ⟨gi, 0, none⟩) hgb]; exact cga
  have fgb : Wb.frozen? ⟨gi, 0, none⟩ = false := by simp only [World.frozen?, hgb] at hfza ⊢; exact hfza
  have ha := ha.setOther ht (g := gi) (i := 0) (.int .u8 121) tb hga
  have hst := hst.setCell (a := ⟨gi, 0, none⟩) (.int .u8 121) (.inr hgw)
  obtain ⟨Wc, hWc⟩ : ∃ Wc, Wb.setCell ⟨gi, 0, none⟩ (.int .u8 121) = Wc := ⟨_, rfl⟩
  rw [hWc] at ha hst
  have hkp := skept_any2 ha k1.small
  rw [q1] at hkp
  dsimp only at hkp
  unfold keptV at hkp
  rw [u64_1] at hkp
  have hkpH := hidden hkp
  have hWcH := hidden hWc
  have hstH := hidden hst
  have haH := hidden ha
  clear hs hgb tb hkp hWc hst ha cga hfza hcH hbsH hrunH ta
  go_wp2_with fail
  rw [hWcH.out]
  refine hkpH.out.mono ?_; rintro e1 Wd ⟨v, od, rfl, hs, lv, rfl, hl2, -, hz⟩
  clear cgb fgb hkpH hWcH
  obtain ⟨gr, cr, cs, hlv, hgr, hrow, hbv⟩ := hz (Nat.zero_lt_one)
  change lv = .slice (some ⟨gr, 0, none⟩) 1 cr at hlv
  subst hlv
  obtain ⟨bw, hbw, hlo, hfr⟩ := hbv 0 _ rfl
  obtain ⟨b', off', bv', hab, hrg, hby2, -, hgrl, -⟩ := (show Lines Wd od Wc.heap.size (.slice (some ⟨gr, 0, none⟩) 1 cr) [⟨1#64, tx⟩] from hl2).at (i := 0) rfl
  simp only [Option.some.injEq, Addr.mk.injEq, and_true] at hab
  obtain ⟨rfl, rfl⟩ := hab
  have d0 : Wd.cell? ⟨gr, 0, none⟩ = some (.int .u64 1) := hrg 0 _ rfl
  have d1 : Wd.cell? ⟨gr, 1, none⟩ = some bv' := hrg 1 _ rfl
  have hbe : bw = bv' := by
    have h1 := cell_of_block hrow 1
    rw [d1] at h1
    have h2 : cs[1]? = some bw := hbw
    rw [h2] at h1
    exact (Option.some.inj h1).symm
  subst hbe
  obtain ⟨e1, e2, e3⟩ := htxH.out
  rcases hby2 with ⟨_, h0, -⟩ | ⟨gb, ob2, capb, hv, y1, y2, y3, y4, y5⟩
  · exfalso; simp only at h0; omega
  · simp only at hv
    rw [e3] at hv
    subst hv
    obtain ⟨csb, hgbh⟩ := hlo gb ob2 _ _ rfl (by omega)
    have hgbb : Wc.heap.size ≤ gb := hfr gb rfl
    have cb : Wd.cell? ⟨gb, ob2, none⟩ = some (.int .u8 120) := by
      have : Wd.rangeAt gb ob2 (bvs tx) := y5
      rw [← e1] at this
      exact this 0 _ rfl
    have hne : gr ≠ gb := fun h => by rw [h, hgbh] at hrow; simp at hrow
    have hne1 : ¬ gb = gr := fun h => hne h.symm
    have hbd : gb < Wd.heap.size := y4
    have hst := hidden (hstH.out.trans (hs.above0 (M := M)))
    have hsN := hs
    clear hz hbv hbw hlo hfr hrg y1 y2 y3 y4 y5 hl2 hs
    have hal := hidden (run_alloc_zero (P := Try.prog) Wd 108 _ zc108)
    have hsw := setCells_alloc_whole Wd #[.int .u64 0, .int .u64 0, .slice none 0 0] 108 [.int .u64 1, .int .u64 1, .slice (some ⟨gr, 0, none⟩) 1 cr] rfl
    obtain ⟨hso, -⟩ := run_store_agg (P := Try.prog) (ty := 108) (vs := [.int .u64 1, .int .u64 1, .slice (some ⟨gr, 0, none⟩) 1 cr]) (heap_alloc_new Wd (.cells [.int .u64 0, .int .u64 0, .slice none 0 0].toArray 108)) rfl (by kernel_rfl) rfl
    rw [hsw] at hso
    have hsoH := hidden hso
    have sE := (Step.refl Nobody Wd od).alloc (.cells [.int .u64 1, .int .u64 1, .slice (some ⟨gr, 0, none⟩) 1 cr].toArray 108) (0, 0)
    have bE : (Wd.alloc (.cells [.int .u64 1, .int .u64 1, .slice (some ⟨gr, 0, none⟩) 1 cr].toArray 108)).heap[Wd.heap.size]? = some (.cells [.int .u64 1, .int .u64 1, .slice (some ⟨gr, 0, none⟩) 1 cr].toArray 108 (0, 0)) := heap_alloc_new Wd _
    have zE : (Wd.alloc (.cells [.int .u64 1, .int .u64 1, .slice (some ⟨gr, 0, none⟩) 1 cr].toArray 108)).heap.size = Wd.heap.size + 1 := by simp
    obtain ⟨We, hWE⟩ : ∃ We, Wd.alloc (.cells [.int .u64 1, .int .u64 1, .slice (some ⟨gr, 0, none⟩) 1 cr].toArray 108) = We := ⟨_, rfl⟩
    obtain ⟨oe, hOE⟩ : ∃ oe, tagAt od Wd.heap.size (0, 0) = oe := ⟨_, rfl⟩
    rw [hWE] at hsoH sE bE zE
    try rw [hWE] at hal
    rw [hOE] at sE
    clear hsw hso hWE hOE
    have c2 := cell_of_block bE 2
    simp only [List.getElem?_cons_zero, List.getElem?_cons_succ] at c2
    have hrE := (sE.block gr hgrl (nn _)).trans hrow
    have hbE := (sE.block gb hbd (nn _)).trans hgbh
    have d0E : We.cell? ⟨gr, 0, none⟩ = some (.int .u64 1) := by rw [World.cell?_of_block (w := Wd) (a := ⟨gr, 0, none⟩) (sE.block gr hgrl (nn _))]; exact d0
    have d1E : We.cell? ⟨gr, 1, none⟩ = some (.slice (some ⟨gb, ob2, none⟩) (1 + N) capb) := by rw [World.cell?_of_block (w := Wd) (a := ⟨gr, 1, none⟩) (sE.block gr hgrl (nn _))]; exact d1
    have cbE : We.cell? ⟨gb, ob2, none⟩ = some (.int .u8 120) := by rw [World.cell?_of_block (w := Wd) (a := ⟨gb, ob2, none⟩) (sE.block gb hbd (nn _))]; exact cb
    have f1 : We.frozen? ⟨gr, 0, none⟩ = false := by simp [World.frozen?, hrE]
    have f2 : We.frozen? ⟨gb, ob2, none⟩ = false := by simp [World.frozen?, hbE]
    have hnb1 : ¬ gb = Wd.heap.size := by omega
    have hnb2 : ¬ Wd.heap.size = gb := by omega
    have hnr1 : ¬ gr = Wd.heap.size := by omega
    have hnr2 : ¬ Wd.heap.size = gr := by omega
    have sF := ((hsN.trans sE).setCell (a := ⟨gb, ob2, none⟩) (.int .u8 122) (.inr hgbb)).setCell (a := ⟨gr, 0, none⟩) (.int .u64 9) (.inr hgr)
    have ha := haH.out.step0 sF
    have hstF := hidden (hstH.out.trans (sF.above0 (M := M)))
    obtain ⟨Wf, hWf⟩ : ∃ Wf, (We.setCell ⟨gb, ob2, none⟩ (.int .u8 122)).setCell ⟨gr, 0, none⟩ (.int .u64 9) = Wf := ⟨_, rfl⟩
    rw [hWf] at ha hstF
    have hkp := skept_any ha k1.small
    rw [q1] at hkp
    dsimp only at hkp
    unfold keptV at hkp
    rw [u64_1] at hkp
    have hkpH := hidden hkp
    have hWfH := hidden hWf
    have hNp : (0 : Int) ≤ (N : Int) := by omega
    clear hrE hbE sE bE zE sF ha hWf hkp hsN hst hstH haH hrow hgbh d0 d1 cb hgrl hbd hgr hgbb e1 e2 e3
    go_wp2_with (first
      | ((with_reducible refine lit_alloc_at hal.out ?_); simp only [Act.put, List.setIfInBounds_toArray, List.set_cons_zero, List.set_cons_succ])
      | ((with_reducible refine lit_store_at hsoH.out ?_ ?_ ?_); rfl; rfl; simp only [Act.put]))
    rw [hWfH.out]
    refine hkpH.out.mono ?_; rintro e1 Wg ⟨v, og, rfl, hs, lv2, rfl, hl3, -⟩
    have hst := hstF.out.trans (hs.above0 (M := M))
    clear hs hkpH hWfH hstF hal hsoH c2 d0E d1E cbE f1 f2 hnb1 hnb2 hnr1 hnr2 hne hne1
    obtain ⟨la, lc, rfl⟩ := hl3.form
    have hal := hidden (run_alloc_zero (P := Try.prog) Wg 108 _ zc108)
    have hsw := setCells_alloc_whole Wg #[.int .u64 0, .int .u64 0, .slice none 0 0] 108 [.int .u64 1, .int .u64 1, .slice la 1 lc] rfl
    obtain ⟨hso, -⟩ := run_store_agg (P := Try.prog) (ty := 108) (vs := [.int .u64 1, .int .u64 1, .slice la 1 lc]) (heap_alloc_new Wg (.cells [.int .u64 0, .int .u64 0, .slice none 0 0].toArray 108)) rfl (by kernel_rfl) rfl
    rw [hsw] at hso
    have hsoH := hidden hso
    have sE := (Step.refl Nobody Wg og).alloc (.cells [.int .u64 1, .int .u64 1, .slice la 1 lc].toArray 108) (0, 0)
    have bE : (Wg.alloc (.cells [.int .u64 1, .int .u64 1, .slice la 1 lc].toArray 108)).heap[Wg.heap.size]? = some (.cells [.int .u64 1, .int .u64 1, .slice la 1 lc].toArray 108 (0, 0)) := heap_alloc_new Wg _
    have zE : (Wg.alloc (.cells [.int .u64 1, .int .u64 1, .slice la 1 lc].toArray 108)).heap.size = Wg.heap.size + 1 := by simp
    obtain ⟨Wh, hWE⟩ : ∃ Wh, Wg.alloc (.cells [.int .u64 1, .int .u64 1, .slice la 1 lc].toArray 108) = Wh := ⟨_, rfl⟩
    obtain ⟨oh, hOE⟩ : ∃ oh, tagAt og Wg.heap.size (0, 0) = oh := ⟨_, rfl⟩
    rw [hWE] at hsoH sE bE zE
    try rw [hWE] at hal
    rw [hOE] at sE
    clear hsw hso hWE hOE
    have c2 := cell_of_block bE 2
    simp only [List.getElem?_cons_zero, List.getElem?_cons_succ] at c2
    have hl3 := (show Lines Wg og Wf.heap.size (.slice la 1 lc) [⟨1#64, tx⟩] from hl3).step sE (nn _)
    have hst := hidden (hst.trans (sE.above0 (M := M)))
    obtain ⟨b3, off3, bv3, rfl, hrg, hby3, -⟩ := hl3.at (i := 0) rfl
    obtain ⟨e1, e2, e3⟩ := htxH.out
    rcases hby3 with ⟨_, h0, -⟩ | ⟨gb3, ob3, capb3, hv, y1, y2, y3, y4, y5⟩
    · exfalso; simp only at h0; omega
    · simp only at hv
      rw [e3] at hv
      subst hv
      have d0 : Wh.cell? ⟨b3, off3, none⟩ = some (.int .u64 1) := hrg 0 _ rfl
      have d1 : Wh.cell? ⟨b3, off3 + 1, none⟩ = some (.slice (some ⟨gb3, ob3, none⟩) (1 + N) capb3) := hrg 1 _ rfl
      have cb : Wh.cell? ⟨gb3, ob3, none⟩ = some (.int .u8 120) := by
        have : Wh.rangeAt gb3 ob3 (bvs tx) := y5
        rw [← e1] at this
        exact this 0 _ rfl
      have hke := hidden (keeps_any Wh oh)
      clear hrg y1 y2 y3 y4 y5 hl3 sE bE zE e1 e2 e3
      go_wp2_with (first
        | ((with_reducible refine lit_alloc_at hal.out ?_); simp only [Act.put, List.setIfInBounds_toArray, List.set_cons_zero, List.set_cons_succ])
        | ((with_reducible refine lit_store_at hsoH.out ?_ ?_ ?_); rfl; rfl; simp only [Act.put]))
      refine hke.out.mono ?_; rintro e1 Wz ⟨v, oz, rfl, hs, rfl⟩
      have hst := hst.out.trans (hs.above0 (M := M))
      clear hs hke
      go_wp2_with fail
      go_ret
      exact ⟨_, oz, rfl, hst.noneAbove hM, rfl⟩
set_option maxRecDepth 100000 in
theorem storeNil_out {w : World} {o : Own} (e : Int) (N : Nat) (ba : Option Addr) (bc : Nat) (hn : 500 < N) : Calls Try.prog 16 #[.int .u64 e, .slice ba N bc] w (Ret Nobody w o fun v _ _ => v = .bool true) := by
  have h3 : (500 : Int) < (N : Int) := by omega
  clear hn
  go_enter Try.func16, Try.ntmps16
  go_wp2_with fail
  go_ret
  exact ⟨_, o, rfl, Step.refl _ _ _, rfl⟩
theorem storeNil_walk {w : World} {o : Own} (e : Int) (h0 : 0 ≤ e) (h1 : e ≤ 18446744073709551615) {v : Value} {l : List UInt8} (hl : Bytes w o v l) :
    Calls Try.prog 16 #[.int .u64 e, v] w (Ret Nobody w o fun v _ _ => v = .bool true) := by
  by_cases h : 500 < l.length
  · obtain ⟨ba, bc, rfl⟩ := slc_form hl
    exact storeNil_out e l.length ba bc h
  · have he : ((BitVec.ofNat 64 e.toNat).toNat : Int) = e := by rw [BitVec.toNat_ofNat]; omega
    have := storeNil_main (BitVec.ofNat 64 e.toNat) hl (by omega)
    rw [he] at this; exact this
end Go.Proofs.YtfgggkheadfiaaaR
/- The statement StoreNil, for every input; no conditions. -/
namespace Go.Proofs.YtfgggkheadfiaaaR
open Go Go.RowKit Go.ChangeShapes Go.WideShapes Go.ChangeAt

/-! ### StoreNil -/
set_option maxRecDepth 100000 in
theorem storeNil_lifted (os : Os) (started : os.Started) (H : Type) (enc : TypeId × Value → H) :
    ReturnsInHanded {} Try.checked os 16 .any (Rows.storeNilSpec.pre6 enc Try.prog Try.f16 Rows.storeNilRow.domain false) (Rows.storeNilSpec.post enc Try.prog Try.f16 false true false false) := by
  refine returnsInHanded_of_change (C := Try.checked) ownKnobs started (by kernel_rfl) Try.func16
    (ChangeSpec.witness6 (enc := enc) (C := Try.checked) false ⟨#[], #[.int .u64 0, .slice none 0 0], []⟩ 8 (by kernel_rfl) (by kernel_rfl) (by kernel_rfl) (by kernel_rfl)) ?_
  intro W base args ds gs before hval0 hW hcnd _
  have hval : ∀ (j : Nat) t v, Try.f16.params[j]? = some t → args[j]? = some v → Value.okWide Try.prog W .any base t v := hval0
  have hW' := hW
  obtain ⟨p, q, hA0, hV, rfl, hfz, hnd⟩ := hW
  have hA : DataW.TrodAll enc Try.prog W 0 (fun _ => true) true Try.f16.params.toList args.toList ds p := hA0
  rw [Try.params16] at hA hval
  obtain ⟨v0, v1, d0, d1, p0, p1, rfl, rfl, rfl, h0, h1⟩ := trodAll_two hA
  obtain ⟨a0, rfl, rfl, rfl, w0⟩ := open_int Try.underlying36 (hval 0 36 v0 rfl rfl) h0
  obtain ⟨a1, n1, c1, rfl⟩ := okWide_slice Try.underlying28 (hval 1 28 v1 rfl rfl)
  obtain ⟨f1, h1⟩ := h1
  obtain ⟨l, hl⟩ := read_bytes9 h1
  obtain ⟨rfl, rfl⟩ := trodVars_none hV
  clear hA0 hval0
  refine (storeNil_walk a0 (bounds_u64 w0).1 (bounds_u64 w0).2 hl).mono fun e W' he => ?_
  obtain ⟨v, o', rfl, hs, rfl⟩ := he
  exact ⟨_, rfl, law_post laidOutTry (by kernel_rfl) rfl Try.underlying4 hW' rfl rfl rfl rfl rfl hs.below⟩

/-- THE STATEMENT. -/
theorem storeNil_holds : Rows.StoreNilSaid :=
  OpenClaim.holds_of_wide 16 Try.f16 rfl rfl rfl rfl rfl rfl rfl ⟨rfl, rfl, rfl, rfl, rfl⟩ rfl rfl rfl rfl rfl (by kernel_rfl) Try.func16 (by kernel_rfl)
    (of_decide_eq_true (by kernel_rfl)) (by unfold Func.isWrapper; first | (rw [if_pos (by decide +kernel)]; kernel_rfl) | (rw [if_neg (by decide +kernel)]; exact ⟨rfl, rfl⟩))
    (fun os started H enc _ => storeNil_lifted os started H enc)
#print axioms storeNil_holds
end Go.Proofs.YtfgggkheadfiaaaR
