/- Contracts of the document's answer of layer 9: Promise. -/
import Derived.Test.YtfgggkheadfiaaaRSq11
namespace Go.Proofs.YtfgggkheadfiaaaR
open Go Go.RowKit
attribute [local go_sem ↓] Go.wp_at_zero Go.wp_at_succ
theorem load95 {w : World} {b off : Nat} {p c : Int} {lv : Value} (hr : w.rangeAt b off [.int .u64 p, .int .u64 c, lv]) : (Instr.loadAt 95 (.pointer (some ⟨b, off, none⟩))).run Try.prog w = .ok (.agg #[.int .u64 p, .int .u64 c, lv]) w := by
  simp only [Instr.loadAt, Instr.sureAddr, Sem.run_bind, Sem.run_pure, Result.andThen_ok]
  exact run_loadVar_mid w b off 95 [.int .u64 p, .int .u64 c, lv] _ hr Try.underlying95 rfl (by kernel_rfl)
theorem zc95 : ((Try.prog.info? 95).bind (·.zero)).map (·.cells) = some #[.int .u64 0, .int .u64 0, .slice none 0 0] := by kernel_rfl
theorem size95 : (Try.prog.info? 95).map (·.size) = some 3 := by kernel_rfl
/-- What the document's acts answer. -/
def KRet (q : KeptM × Int) (v : Value) (w' : World) (o' : Own) : Prop := ∃ lv', v = .tuple #[keptV q.1.promised q.1.current lv', .int .i64 q.2] ∧ Lines w' o' 0 lv' q.1.lines
set_option maxRecDepth 100000 in
set_option maxHeartbeats 3200000 in
theorem dpromise_any {w : World} {o : Own} {p c : BitVec 64} {lv : Value} {ls : List LineM} (hl : Lines w o 0 lv ls) (e : BitVec 64) :
    Calls Try.prog 97 #[keptV p c lv, .int .u64 (e.toNat : Int)] w (Ret Nobody w o fun v w' o' => KRet (KeptM.promiseD ⟨p, c, ls⟩ e) v w' o') := by
  obtain ⟨la, lc, rfl⟩ := hl.form
  obtain ⟨N, hN⟩ : ∃ N, ls.length = N := ⟨_, rfl⟩
  unfold keptV
  rw [hN] at hl ⊢
  have s1 := (Step.refl Nobody w o).alloc (.cells #[.int .u64 (p.toNat : Int), .int .u64 (c.toNat : Int), .slice la N lc] 95) (0, 0)
  have b1 : (w.alloc (.cells #[.int .u64 (p.toNat : Int), .int .u64 (c.toNat : Int), .slice la N lc] 95)).heap[w.heap.size]? = some (.cells [.int .u64 (p.toNat : Int), .int .u64 (c.toNat : Int), .slice la N lc].toArray 95 (0, 0)) := heap_alloc_new w _
  have z1 : (w.alloc (.cells #[.int .u64 (p.toNat : Int), .int .u64 (c.toNat : Int), .slice la N lc] 95)).heap.size = w.heap.size + 1 := by simp
  obtain ⟨W1, hW1⟩ : ∃ W1, w.alloc (.cells #[.int .u64 (p.toNat : Int), .int .u64 (c.toNat : Int), .slice la N lc] 95) = W1 := ⟨_, rfl⟩
  rw [hW1] at s1 b1 z1
  have s2 := s1.alloc (.cells #[.int .u64 0, .int .u64 0, .slice none 0 0] 95) (0, 0)
  have b2 : (W1.alloc (.cells #[.int .u64 0, .int .u64 0, .slice none 0 0] 95)).heap[W1.heap.size]? = some (.cells [.int .u64 0, .int .u64 0, .slice none 0 0].toArray 95 (0, 0)) := heap_alloc_new W1 _
  have b12 := (Below.heap_alloc W1 (.cells #[.int .u64 0, .int .u64 0, .slice none 0 0] 95) w.heap.size (by omega)).trans b1
  have hal := hidden (run_alloc_zero (P := Try.prog) W1 95 _ zc95)
  have z2 : (W1.alloc (.cells #[.int .u64 0, .int .u64 0, .slice none 0 0] 95)).heap.size = w.heap.size + 2 := by simp [z1]
  obtain ⟨W2, hW2⟩ : ∃ W2, W1.alloc (.cells #[.int .u64 0, .int .u64 0, .slice none 0 0] 95) = W2 := ⟨_, rfl⟩
  rw [hW2] at hal s2 b2 b12 z2
  rw [z1] at b2 hal
  generalize tagAt (tagAt o w.heap.size (0, 0)) W1.heap.size (0, 0) = o2 at s2
  rw [← hW1] at hal
  have c10 := cell_of_block b12 0
  have c11 := cell_of_block b12 1
  have c12 := cell_of_block b12 2
  have f10 := free_of_block b12 0
  simp only [List.getElem?_cons_zero, List.getElem?_cons_succ] at c10 c11 c12
  -- as it was
  have hld := hidden (load95 (range_whole b12))
  obtain ⟨hso, hsb⟩ := run_store_agg (P := Try.prog) (ty := 95) (vs := [.int .u64 (p.toNat : Int), .int .u64 (c.toNat : Int), .slice la N lc]) b2 rfl (by kernel_rfl) rfl
  have hsoH := hidden hso
  have stE := s2.setCells (w.heap.size + 1) 0 [.int .u64 (p.toNat : Int), .int .u64 (c.toNat : Int), .slice la N lc] (.inr (by omega))
  have hlE := hl.step stE (fun h => h)
  have hsbH := hidden hsb
  have hE := hidden (And.intro stE hlE)
  clear hso hsb stE hlE s1 b1 z1 hW1 hW2
  have b3 := heap_setCell_at (i := 0) (.int .u64 (e.toNat : Int)) b12
  simp only [List.set_cons_zero] at b3
  have r3 : (W2.setCell ⟨w.heap.size, 0, none⟩ (.int .u64 (e.toNat : Int))).heap[w.heap.size + 1]? = _ := (Below.heap_setCell _ _ _ _ (by show w.heap.size + 1 ≠ w.heap.size; omega)).trans b2
  have hld2 := hidden (load95 (range_whole b3))
  obtain ⟨hso2, hsb2⟩ := run_store_agg (P := Try.prog) (ty := 95) (vs := [.int .u64 (e.toNat : Int), .int .u64 (c.toNat : Int), .slice la N lc]) r3 rfl (by kernel_rfl) rfl
  have hso2H := hidden hso2
  have hsb2H := hidden hsb2
  have stF := (s2.setCell (a := ⟨w.heap.size, 0, none⟩) (.int .u64 (e.toNat : Int)) (.inr (Nat.le_refl _))).setCells (w.heap.size + 1) 0 [.int .u64 (e.toNat : Int), .int .u64 (c.toNat : Int), .slice la N lc] (.inr (by omega))
  have hF := hidden (And.intro stF (hl.step stF (fun h => h)))
  clear hso2 hsb2 stF hl s2 b3 r3 b2 b12
  by_cases h1 : p.toNat < e.toNat
  · have h1I : ¬ (e.toNat : Int) ≤ (p.toNat : Int) := by omega
    by_cases h2 : e.toNat ≤ 281474976710656
    · have h2I : ¬ (281474976710656 : Int) < (e.toNat : Int) := by omega
      have hfin := hidden (show KeptM.promiseD ⟨p, c, ls⟩ e = (⟨e, c, ls⟩, 0) by simp [KeptM.promiseD, KeptM.promiseOk, h1, h2])
      go_enter Try.func97, Try.ntmps97
      go_wp2_with (first
        | ((with_reducible apply lit_load); exact hld2.out; simp only [Act.put, List.setIfInBounds_toArray, List.set_cons_zero, List.set_cons_succ])
        | ((with_reducible apply lit_alloc); exact hal.out; simp only [Act.put, List.setIfInBounds_toArray, List.set_cons_zero, List.set_cons_succ])
        | ((with_reducible apply lit_store); exact hso2H.out; simp only [Act.put]))
      refine bodyPost_ret (results_row_tmp rfl _ _ (w.heap.size + 1) 95 _ (0, 0) _ rfl hsb2H.out Try.underlying95 rfl size95) rfl ?_
      exact ⟨_, o2, rfl, hF.out.1, _, by rw [hfin.out]; rfl, by rw [hfin.out]; exact hN ▸ hF.out.2⟩
    · have h2I : (281474976710656 : Int) < (e.toNat : Int) := by omega
      have hfin := hidden (show KeptM.promiseD ⟨p, c, ls⟩ e = (⟨p, c, ls⟩, 1) by simp [KeptM.promiseD, KeptM.promiseOk, h2])
      go_enter Try.func97, Try.ntmps97
      go_wp2_with (first
        | ((with_reducible apply lit_load); exact hld.out; simp only [Act.put, List.setIfInBounds_toArray, List.set_cons_zero, List.set_cons_succ])
        | ((with_reducible apply lit_alloc); exact hal.out; simp only [Act.put, List.setIfInBounds_toArray, List.set_cons_zero, List.set_cons_succ])
        | ((with_reducible apply lit_store); exact hsoH.out; simp only [Act.put]))
      refine bodyPost_ret (results_row_tmp rfl _ _ (w.heap.size + 1) 95 _ (0, 0) _ rfl hsbH.out Try.underlying95 rfl size95) rfl ?_
      exact ⟨_, o2, rfl, hE.out.1, _, by rw [hfin.out]; rfl, by rw [hfin.out]; exact hE.out.2⟩
  · have h1I : (e.toNat : Int) ≤ (p.toNat : Int) := by omega
    have hfin := hidden (show KeptM.promiseD ⟨p, c, ls⟩ e = (⟨p, c, ls⟩, 1) by simp [KeptM.promiseD, KeptM.promiseOk, h1])
    go_enter Try.func97, Try.ntmps97
    go_wp2_with (first
      | ((with_reducible apply lit_load); exact hld.out; simp only [Act.put, List.setIfInBounds_toArray, List.set_cons_zero, List.set_cons_succ])
      | ((with_reducible apply lit_alloc); exact hal.out; simp only [Act.put, List.setIfInBounds_toArray, List.set_cons_zero, List.set_cons_succ])
      | ((with_reducible apply lit_store); exact hsoH.out; simp only [Act.put]))
    refine bodyPost_ret (results_row_tmp rfl _ _ (w.heap.size + 1) 95 _ (0, 0) _ rfl hsbH.out Try.underlying95 rfl size95) rfl ?_
    exact ⟨_, o2, rfl, hE.out.1, _, by rw [hfin.out]; rfl, by rw [hfin.out]; exact hE.out.2⟩
end Go.Proofs.YtfgggkheadfiaaaR
/- Contracts of the document's answer of layer 9: Adopt, Append. -/
namespace Go.Proofs.YtfgggkheadfiaaaR
open Go Go.RowKit
attribute [local go_sem ↓] Go.wp_at_zero Go.wp_at_succ
/-- What the two blocks of a call of the document's acts let one do, later on. -/
theorem kept_out {w W2 wr : World} {o o2 oj : Own} {K Z : List Value} (_hK : K.length = 3) (hZ : Z.length = 3) (s2 : Step Nobody w o W2 o2) (b12 : W2.heap[w.heap.size]? = some (.cells K.toArray 95 (0, 0))) (b2 : W2.heap[w.heap.size + 1]? = some (.cells Z.toArray 95 (0, 0)))
    (st : Step Nobody W2 o2 wr oj) : wr.heap[w.heap.size]? = some (.cells K.toArray 95 (0, 0)) ∧ ∀ vs : List Value, vs.length = 3 → vs.all (·.oneCell') = true →
      (Instr.storeAt 95 (.pointer (some ⟨w.heap.size + 1, 0, none⟩)) (.agg vs.toArray)).run Try.prog wr = .ok () (wr.setCells (w.heap.size + 1) 0 vs) ∧ (wr.setCells (w.heap.size + 1) 0 vs).heap[w.heap.size + 1]? = some (.cells vs.toArray 95 (0, 0)) ∧
      Step Nobody w o (wr.setCells (w.heap.size + 1) 0 vs) oj := by
  have b12r := (st.block _ (lt_of_block b12) (fun h => h)).trans b12
  have b2r := (st.block _ (lt_of_block b2) (fun h => h)).trans b2
  refine ⟨b12r, fun vs hv h1 => ?_⟩
  obtain ⟨h2, h3⟩ := run_store_agg (P := Try.prog) (ty := 95) (vs := vs) b2r (by rw [hv, hZ]) (by rw [hv]; exact size95) h1
  exact ⟨h2, h3, (s2.trans st).setCells _ _ _ (.inr (by omega))⟩
theorem take_any {ls : List LineM} {f : LineM → Bool} {k : Nat} {x : LineM} (hx : ls[k]? = some x) (h : (ls.take k).any f = false) (hf : f x = false) : (ls.take (k + 1)).any f = false := by
  rw [List.take_add_one, hx, List.any_append, h]; simp [hf]
theorem any_of {ls : List LineM} {f : LineM → Bool} {k : Nat} {x : LineM} (hx : ls[k]? = some x) (hf : f x = true) : ls.any f = true := List.any_eq_true.2 ⟨x, List.mem_of_getElem? hx, hf⟩
section
variable {w : World} {o : Own} {p c : BitVec 64} {lv lv2 : Value} {ls ls2 : List LineM}
set_option maxRecDepth 100000 in
set_option maxHeartbeats 6400000 in
theorem dadopt_any (hl : Lines w o 0 lv ls) (hl2 : Lines w o 0 lv2 ls2) (hn2 : ls2.length ≤ 100000) (e : BitVec 64) :
    Calls Try.prog 98 #[keptV p c lv, .int .u64 (e.toNat : Int), lv2] w (Ret Nobody w o fun v w' o' => KRet (KeptM.adoptD ⟨p, c, ls⟩ e ls2) v w' o') := by
  obtain ⟨D, hD⟩ : ∃ D : Nat, D = 1 := ⟨_, rfl⟩
  obtain ⟨la, lc, rfl⟩ := hl.form
  obtain ⟨N, hN⟩ : ∃ N, ls.length = N := ⟨_, rfl⟩
  obtain ⟨la2, lc2, rfl⟩ := hl2.form
  obtain ⟨N2, hN2⟩ : ∃ N2, ls2.length = N2 := ⟨_, rfl⟩
  unfold keptV
  rw [hN] at hl ⊢
  rw [hN2] at hl2 hn2 ⊢
  have s1 := (Step.refl Nobody w o).alloc (.cells #[.int .u64 (p.toNat : Int), .int .u64 (c.toNat : Int), .slice la N lc] 95) (D, 0)
  have b1 : (w.alloc (.cells #[.int .u64 (p.toNat : Int), .int .u64 (c.toNat : Int), .slice la N lc] 95)).heap[w.heap.size]? = some (.cells [.int .u64 (p.toNat : Int), .int .u64 (c.toNat : Int), .slice la N lc].toArray 95 (0, 0)) := heap_alloc_new w _
  have z1 : (w.alloc (.cells #[.int .u64 (p.toNat : Int), .int .u64 (c.toNat : Int), .slice la N lc] 95)).heap.size = w.heap.size + 1 := by simp
  have t1 : tagAt o w.heap.size (D, 0) w.heap.size = (D, 0) := tagAt_same _ _ _
  obtain ⟨W1, hW1⟩ : ∃ W1, w.alloc (.cells #[.int .u64 (p.toNat : Int), .int .u64 (c.toNat : Int), .slice la N lc] 95) = W1 := ⟨_, rfl⟩
  rw [hW1] at s1 b1 z1
  generalize tagAt o w.heap.size (D, 0) = o1 at s1 t1
  have s2 := s1.alloc (.cells #[.int .u64 0, .int .u64 0, .slice none 0 0] 95) (D, 1)
  have b2 : (W1.alloc (.cells #[.int .u64 0, .int .u64 0, .slice none 0 0] 95)).heap[W1.heap.size]? = some (.cells [.int .u64 0, .int .u64 0, .slice none 0 0].toArray 95 (0, 0)) := heap_alloc_new W1 _
  have b12 := (Below.heap_alloc W1 (.cells #[.int .u64 0, .int .u64 0, .slice none 0 0] 95) w.heap.size (by omega)).trans b1
  have t2 : tagAt o1 W1.heap.size (D, 1) W1.heap.size = (D, 1) := tagAt_same _ _ _
  have t12 : tagAt o1 W1.heap.size (D, 1) w.heap.size = (D, 0) := by rw [tagAt_other _ _ (by omega)]; exact t1
  have hal := hidden (run_alloc_zero (P := Try.prog) W1 95 _ zc95)
  have z2 : (W1.alloc (.cells #[.int .u64 0, .int .u64 0, .slice none 0 0] 95)).heap.size = w.heap.size + 2 := by simp [z1]
  obtain ⟨W2, hW2⟩ : ∃ W2, W1.alloc (.cells #[.int .u64 0, .int .u64 0, .slice none 0 0] 95) = W2 := ⟨_, rfl⟩
  rw [hW2] at hal s2 b2 b12 z2
  generalize tagAt o1 W1.heap.size (D, 1) = o2 at s2 t2 t12
  rw [z1] at b2 hal t2
  rw [← hW1] at hal
  have c10 := cell_of_block b12 0
  have c11 := cell_of_block b12 1
  have c12 := cell_of_block b12 2
  simp only [List.getElem?_cons_zero, List.getElem?_cons_succ] at c10 c11 c12
  have hH := hidden (And.intro s2 (And.intro b12 (And.intro b2 (And.intro t12 t2))))
  have hlw := hidden hl
  have hl2w := hidden hl2
  have hl2H := hidden (hl2.step s2 (fun h => h) : Lines W2 o2 0 (.slice la2 N2 lc2) ls2)
  have hNH := hidden (And.intro hN hN2)
  have hout := hidden (fun (wr : World) (oj : Own) (st : Step Nobody W2 o2 wr oj) => kept_out (K := [.int .u64 (p.toNat : Int), .int .u64 (c.toNat : Int), .slice la N lc]) (Z := [.int .u64 0, .int .u64 0, .slice none 0 0]) rfl rfl s2 b12 b2 st)
  clear b2 b12 s2 s1 b1 z1 z2 hW1 hW2 hl hl2 t1 t2 t12 hN hN2
  obtain ⟨E, hE0⟩ : ∃ E, e.toNat = E := ⟨_, rfl⟩
  rw [hE0]
  have hmayA := hidden (fun (W : World) (O : Own) (x : LineM) (bv : Value) (hb : Bytes W O bv x.b) => rmay_any e x hb)
  rw [hE0] at hmayA
  have hEH := hidden hE0
  clear hE0
  by_cases h0 : p.toNat ≤ E
  · have h0I : ¬ (E : Int) < (p.toNat : Int) := by omega
    by_cases h1 : c.toNat < E
    · have h1I : ¬ (E : Int) ≤ (c.toNat : Int) := by omega
      by_cases h2 : E ≤ 281474976710656
      · have h2I : ¬ (281474976710656 : Int) < (E : Int) := by omega
        by_cases h3 : N2 ≤ 256
        · have h3I : ¬ (256 : Int) < (N2 : Int) := by omega
          have hok := hidden (show (decide (p.toNat ≤ e.toNat) && decide (c.toNat < e.toNat) && decide (e.toNat ≤ 281474976710656) && decide (ls2.length ≤ 256)) = true by simp [hEH.out, hNH.out.2, h0, h1, h2, h3])
          clear h0 h1 h2 h3
          go_enter Try.func98, Try.ntmps98
          go_wp2_with (first
            | ((with_reducible apply lit_alloc); exact hal.out; simp only [Act.put, List.setIfInBounds_toArray, List.set_cons_zero, List.set_cons_succ]))
          go_loopw [8] (fun i wr => ∃ (k : Nat) (oj : Own), k ≤ N2 ∧ i = .int .i64 k ∧ Step Nobody W2 o2 wr oj ∧ (ls2.take k).any (badL e) = false) (fun i _ => N2 - (intOf i).toNat)
          case atStart => exact ⟨0, o2, by omega, rfl, Step.refl _ _ _, by simp⟩
          case round =>
            obtain ⟨k, oj, hk, rfl, hst, hgood⟩ := hrel
            have hgoodH := hidden hgood
            clear hgood c10 c11 c12
            by_cases hlt : k < N2
            · have hltI : (k : Int) < (N2 : Int) := by omega
              obtain ⟨x, hx⟩ : ∃ x, ls2[k]? = some x := ⟨_, List.getElem?_eq_getElem (by rw [hNH.out.2]; exact hlt)⟩
              obtain ⟨b, off, bv, rfl, hrg, hby, -, -, -⟩ := (hl2H.out.step hst (fun h => h)).at hx
              have hld113 := hidden (load113 hrg)
              have hmy := hidden (hmayA.out wr oj x bv hby)
              have hxH := hidden hx
              clear hrg hby hx
              cases hb : badL e x with
              | true =>
                rw [hb] at hmy
                have hfin := hidden (show KeptM.adoptD ⟨p, c, ls⟩ e ls2 = (⟨p, c, ls⟩, 1) by simp only [KeptM.adoptD, KeptM.adoptOk, any_of hxH.out hb]; simp)
                go_wp2_with (first
                  | ((with_reducible apply lit_load); exact hld113.out; simp only [Act.put, List.setIfInBounds_toArray, List.set_cons_zero, List.set_cons_succ]))
                refine hmy.out.mono ?_; rintro e1 w3 ⟨v3, o3, rfl, hs3, rfl⟩
                have hst3 := hst.trans hs3
                obtain ⟨hbk, hst9⟩ := hout.out w3 o3 hst3
                obtain ⟨hso, hsb, stE⟩ := hst9 [.int .u64 (p.toNat : Int), .int .u64 (c.toNat : Int), .slice la N lc] rfl rfl
                have hld := hidden (load95 (range_whole hbk))
                have hsoH := hidden hso
                have hsbH := hidden hsb
                have hE := hidden (And.intro stE (hlw.out.step stE (fun h => h)))
                clear hso hsb stE hst9 hbk
                clear hst hs3
                go_wp2_with (first
                  | ((with_reducible apply lit_load); exact hld.out; simp only [Act.put, List.setIfInBounds_toArray, List.set_cons_zero, List.set_cons_succ])
                  | ((with_reducible apply lit_store); exact hsoH.out; simp only [Act.put]))
                refine bodyPost_ret (results_row_tmp rfl _ _ (w.heap.size + 1) 95 _ (0, 0) _ rfl hsbH.out Try.underlying95 rfl size95) rfl ?_
                exact ⟨_, o3, rfl, hE.out.1, _, by rw [hfin.out]; rfl, by rw [hfin.out]; exact hE.out.2⟩
              | false =>
                rw [hb] at hmy
                have hg2 := hidden (take_any hxH.out hgoodH.out hb)
                go_wp2_with (first
                  | ((with_reducible apply lit_load); exact hld113.out; simp only [Act.put, List.setIfInBounds_toArray, List.set_cons_zero, List.set_cons_succ]))
                refine hmy.out.mono ?_; rintro e1 w3 ⟨v3, o3, rfl, hs3, rfl⟩
                have hst3 := hidden (hst.trans hs3)
                clear hst hs3 hld113 hmy
                go_wp2_with fail
                go_roundw
                case rel => exact ⟨k + 1, o3, by omega, by go_num, hst3.out, hg2.out⟩
                case measure => simp [intOf]; omega
            · obtain rfl : N2 = k := by omega
              have hfin := hidden (show KeptM.adoptD ⟨p, c, ls⟩ e ls2 = (⟨e, e, ls2⟩, 0) by
                have hg := hgoodH.out
                rw [← hNH.out.2, List.take_length] at hg
                simp only [KeptM.adoptD, KeptM.adoptOk, hok.out, hg]; simp)
              obtain ⟨hbk, hst9⟩ := hout.out wr oj hst
              obtain ⟨hso, hsb, stE⟩ := hst9 [.int .u64 (E : Int), .int .u64 (E : Int), .slice la2 N2 lc2] rfl rfl
              have hsoH := hidden hso
              have hsbH := hidden hsb
              have hE := hidden (And.intro stE (hl2w.out.step stE (fun h => h)))
              clear hso hsb stE hst9 hbk
              go_wp2_with (first
                | ((with_reducible apply lit_store); exact hsoH.out; simp only [Act.put]))
              refine bodyPost_ret (results_row_tmp rfl _ _ (w.heap.size + 1) 95 _ (0, 0) _ rfl hsbH.out Try.underlying95 rfl size95) rfl ?_
              exact ⟨_, oj, rfl, hE.out.1, _, by rw [hfin.out]; simp only [keptV]; rw [hEH.out]; rfl, by rw [hfin.out]; exact hE.out.2⟩
        · have h3I : (256 : Int) < (N2 : Int) := by omega
          have hfin := hidden (show KeptM.adoptD ⟨p, c, ls⟩ e ls2 = (⟨p, c, ls⟩, 1) by simp only [KeptM.adoptD, KeptM.adoptOk, hEH.out, hNH.out.2]; simp [h3])
          obtain ⟨hbk, hst9⟩ := hout.out W2 o2 (Step.refl _ _ _)
          obtain ⟨hso, hsb, stE⟩ := hst9 [.int .u64 (p.toNat : Int), .int .u64 (c.toNat : Int), .slice la N lc] rfl rfl
          have hld := hidden (load95 (range_whole hbk))
          have hsoH := hidden hso
          have hsbH := hidden hsb
          have hE := hidden (And.intro stE (hlw.out.step stE (fun h => h)))
          clear hso hsb stE hst9 hbk
          go_enter Try.func98, Try.ntmps98
          go_wp2_with (first
            | ((with_reducible apply lit_load); exact hld.out; simp only [Act.put, List.setIfInBounds_toArray, List.set_cons_zero, List.set_cons_succ])
            | ((with_reducible apply lit_alloc); exact hal.out; simp only [Act.put, List.setIfInBounds_toArray, List.set_cons_zero, List.set_cons_succ])
            | ((with_reducible apply lit_store); exact hsoH.out; simp only [Act.put]))
          refine bodyPost_ret (results_row_tmp rfl _ _ (w.heap.size + 1) 95 _ (0, 0) _ rfl hsbH.out Try.underlying95 rfl size95) rfl ?_
          exact ⟨_, o2, rfl, hE.out.1, _, by rw [hfin.out]; rfl, by rw [hfin.out]; exact hE.out.2⟩
      · have h2I : (281474976710656 : Int) < (E : Int) := by omega
        have hfin := hidden (show KeptM.adoptD ⟨p, c, ls⟩ e ls2 = (⟨p, c, ls⟩, 1) by simp only [KeptM.adoptD, KeptM.adoptOk, hEH.out, hNH.out.2]; simp [h2])
        obtain ⟨hbk, hst9⟩ := hout.out W2 o2 (Step.refl _ _ _)
        obtain ⟨hso, hsb, stE⟩ := hst9 [.int .u64 (p.toNat : Int), .int .u64 (c.toNat : Int), .slice la N lc] rfl rfl
        have hld := hidden (load95 (range_whole hbk))
        have hsoH := hidden hso
        have hsbH := hidden hsb
        have hE := hidden (And.intro stE (hlw.out.step stE (fun h => h)))
        clear hso hsb stE hst9 hbk
        go_enter Try.func98, Try.ntmps98
        go_wp2_with (first
          | ((with_reducible apply lit_load); exact hld.out; simp only [Act.put, List.setIfInBounds_toArray, List.set_cons_zero, List.set_cons_succ])
          | ((with_reducible apply lit_alloc); exact hal.out; simp only [Act.put, List.setIfInBounds_toArray, List.set_cons_zero, List.set_cons_succ])
          | ((with_reducible apply lit_store); exact hsoH.out; simp only [Act.put]))
        refine bodyPost_ret (results_row_tmp rfl _ _ (w.heap.size + 1) 95 _ (0, 0) _ rfl hsbH.out Try.underlying95 rfl size95) rfl ?_
        exact ⟨_, o2, rfl, hE.out.1, _, by rw [hfin.out]; rfl, by rw [hfin.out]; exact hE.out.2⟩
    · have h1I : (E : Int) ≤ (c.toNat : Int) := by omega
      have hfin := hidden (show KeptM.adoptD ⟨p, c, ls⟩ e ls2 = (⟨p, c, ls⟩, 1) by simp only [KeptM.adoptD, KeptM.adoptOk, hEH.out, hNH.out.2]; simp [h1])
      obtain ⟨hbk, hst9⟩ := hout.out W2 o2 (Step.refl _ _ _)
      obtain ⟨hso, hsb, stE⟩ := hst9 [.int .u64 (p.toNat : Int), .int .u64 (c.toNat : Int), .slice la N lc] rfl rfl
      have hld := hidden (load95 (range_whole hbk))
      have hsoH := hidden hso
      have hsbH := hidden hsb
      have hE := hidden (And.intro stE (hlw.out.step stE (fun h => h)))
      clear hso hsb stE hst9 hbk
      go_enter Try.func98, Try.ntmps98
      go_wp2_with (first
        | ((with_reducible apply lit_load); exact hld.out; simp only [Act.put, List.setIfInBounds_toArray, List.set_cons_zero, List.set_cons_succ])
        | ((with_reducible apply lit_alloc); exact hal.out; simp only [Act.put, List.setIfInBounds_toArray, List.set_cons_zero, List.set_cons_succ])
        | ((with_reducible apply lit_store); exact hsoH.out; simp only [Act.put]))
      refine bodyPost_ret (results_row_tmp rfl _ _ (w.heap.size + 1) 95 _ (0, 0) _ rfl hsbH.out Try.underlying95 rfl size95) rfl ?_
      exact ⟨_, o2, rfl, hE.out.1, _, by rw [hfin.out]; rfl, by rw [hfin.out]; exact hE.out.2⟩
  · have h0I : (E : Int) < (p.toNat : Int) := by omega
    have hfin := hidden (show KeptM.adoptD ⟨p, c, ls⟩ e ls2 = (⟨p, c, ls⟩, 1) by simp only [KeptM.adoptD, KeptM.adoptOk, hEH.out, hNH.out.2]; simp [h0])
    obtain ⟨hbk, hst9⟩ := hout.out W2 o2 (Step.refl _ _ _)
    obtain ⟨hso, hsb, stE⟩ := hst9 [.int .u64 (p.toNat : Int), .int .u64 (c.toNat : Int), .slice la N lc] rfl rfl
    have hld := hidden (load95 (range_whole hbk))
    have hsoH := hidden hso
    have hsbH := hidden hsb
    have hE := hidden (And.intro stE (hlw.out.step stE (fun h => h)))
    clear hso hsb stE hst9 hbk
    go_enter Try.func98, Try.ntmps98
    go_wp2_with (first
      | ((with_reducible apply lit_load); exact hld.out; simp only [Act.put, List.setIfInBounds_toArray, List.set_cons_zero, List.set_cons_succ])
      | ((with_reducible apply lit_alloc); exact hal.out; simp only [Act.put, List.setIfInBounds_toArray, List.set_cons_zero, List.set_cons_succ])
      | ((with_reducible apply lit_store); exact hsoH.out; simp only [Act.put]))
    refine bodyPost_ret (results_row_tmp rfl _ _ (w.heap.size + 1) 95 _ (0, 0) _ rfl hsbH.out Try.underlying95 rfl size95) rfl ?_
    exact ⟨_, o2, rfl, hE.out.1, _, by rw [hfin.out]; rfl, by rw [hfin.out]; exact hE.out.2⟩
end
end Go.Proofs.YtfgggkheadfiaaaR
/- Contracts of the document's answer of layer 9: Append, Fits. -/
namespace Go.Proofs.YtfgggkheadfiaaaR
open Go Go.RowKit
attribute [local go_sem ↓] Go.wp_at_zero Go.wp_at_succ
/-- Objects X are plain data from now on. -/
def untag (X : Nat) (o : Own) : Own := fun k => if (o k).1 = X then (0, 0) else o k
theorem untag_zero {X : Nat} {o : Own} {k : Nat} (h : (o k).1 = 0) : (untag X o k).1 = 0 := by
  unfold untag; split
  · rfl
  · exact h
theorem Step.untag {X : Nat} {w w' : World} {o o' : Own} (h : Step (Only X) w o w' o') (hX : ∀ k, k < w.heap.size → (o k).1 ≠ X) : Step Nobody w o w' (untag X o') :=
  ⟨h.os, h.tape, h.output, h.size, fun k hk => by
    have := h.own k hk
    unfold Go.Proofs.YtfgggkheadfiaaaR.untag
    rw [this, if_neg (hX k hk)], fun k hk _ => h.block k hk (fun e => hX k hk e)⟩
theorem LRow.plain {w : World} {o : Own} {X : Nat} {v : Value} {ls : List LineM} (h : LRow w o 0 (X, 0) v ls) : Lines w (untag X o) 0 v ls := by
  obtain ⟨cs, h1, h2, h3, h4⟩ := h
  refine ⟨cs, ?_, h3.retag2 fun b _ hb => untag_zero hb, Fresh.zero v, h4⟩
  rcases h1.2 with ⟨rfl, h0⟩ | ⟨g, cap, cur, rfl, q1, q2, q3, q4, q5, q6⟩
  · refine .inl ⟨⟨none, 0, rfl⟩, h0, ?_⟩
    apply List.eq_nil_of_length_eq_zero; rw [h1.1, h0]
  · refine .inr ⟨g, 0, cap, rfl, q3, q4, by unfold untag; rw [h2 g rfl]; simp, lt_of_block q2, ?_⟩
    have := range_of_block (w := w) (b := g) (cs := cur.toList) (E := 113) (fr := (0, 0)) (by simpa using q2) 0 (ls.length * 2)
    rw [List.drop_zero, q6] at this; exact this
theorem LRow.appendLines {W : World} {o : Own} {X b2 : Nat} {v v2 : Value} {l1 l2 : List LineM} (h : LRow W o 0 (X, 0) v l1) (hX : X ≠ 0) (h2 : Lines W o b2 v2 l2) (hn : l1.length + l2.length ≤ 100000) :
    ∃ nv w' o', (Builtin.append_ #[93, 93] 93 #[v, v2]).run Try.prog W = .ok nv w' ∧ LRow w' o' 0 (X, 0) nv (l1 ++ l2) ∧ Step (Only X) W o w' o' := by
  by_cases h0 : l2.length = 0
  · have e := List.eq_nil_of_length_eq_zero h0
    subst e
    obtain ⟨a, c, rfl⟩ := h.form
    obtain ⟨a2, c2, rfl⟩ := h2.form
    have := h.capOk.1
    refine ⟨_, W, o, run_append_none (P := Try.prog) W 93 93 113 2 Try.underlying93 (by kernel_rfl) a a2 l1.length c c2 this (by simp at hn; omega), by rw [List.append_nil]; exact h, Step.refl _ _ _⟩
  · obtain ⟨cs, h3, h4, -, -⟩ := h2
    rcases h3 with ⟨_, q, -⟩ | ⟨g, off, c, rfl, q1, q2, q3, q4, q5⟩
    · omega
    · obtain ⟨nv, w', o', a1, a2, a3, -, -⟩ := h.append hX (Nat.zero_le _) q5 h4 (fun u _ => Fresh.zero u) (by omega) hn (c := c)
      exact ⟨nv, w', o', a1, a2, a3⟩
section
variable {w : World} {o : Own} {p c : BitVec 64} {lv lv2 : Value} {ls ls2 : List LineM}
set_option maxRecDepth 100000 in
set_option maxHeartbeats 6400000 in
theorem dappend_any (hl : Lines w o 0 lv ls) (hl2 : Lines w o 0 lv2 ls2) (hn : ls.length ≤ 256) (hn2 : ls2.length ≤ 1000) :
    Calls Try.prog 99 #[keptV p c lv, lv2] w (Ret Nobody w o fun v w' o' => KRet (KeptM.appendD ⟨p, c, ls⟩ ls2) v w' o') := by
  obtain ⟨D, hD⟩ : ∃ D : Nat, D = 1 := ⟨_, rfl⟩
  obtain ⟨X, hX1, hXf⟩ := fresh_tag o w.heap.size 1
  obtain ⟨la, lc, rfl⟩ := hl.form
  obtain ⟨N, hN⟩ : ∃ N, ls.length = N := ⟨_, rfl⟩
  obtain ⟨la2, lc2, rfl⟩ := hl2.form
  obtain ⟨N2, hN2⟩ : ∃ N2, ls2.length = N2 := ⟨_, rfl⟩
  unfold keptV
  rw [hN] at hl hn ⊢
  rw [hN2] at hl2 hn2 ⊢
  have s1 := (Step.refl Nobody w o).alloc (.cells #[.int .u64 (p.toNat : Int), .int .u64 (c.toNat : Int), .slice la N lc] 95) (D, 0)
  have b1 : (w.alloc (.cells #[.int .u64 (p.toNat : Int), .int .u64 (c.toNat : Int), .slice la N lc] 95)).heap[w.heap.size]? = some (.cells [.int .u64 (p.toNat : Int), .int .u64 (c.toNat : Int), .slice la N lc].toArray 95 (0, 0)) := heap_alloc_new w _
  have z1 : (w.alloc (.cells #[.int .u64 (p.toNat : Int), .int .u64 (c.toNat : Int), .slice la N lc] 95)).heap.size = w.heap.size + 1 := by simp
  have t1 : tagAt o w.heap.size (D, 0) w.heap.size = (D, 0) := tagAt_same _ _ _
  obtain ⟨W1, hW1⟩ : ∃ W1, w.alloc (.cells #[.int .u64 (p.toNat : Int), .int .u64 (c.toNat : Int), .slice la N lc] 95) = W1 := ⟨_, rfl⟩
  rw [hW1] at s1 b1 z1
  generalize tagAt o w.heap.size (D, 0) = o1 at s1 t1
  have s2 := s1.alloc (.cells #[.int .u64 0, .int .u64 0, .slice none 0 0] 95) (D, 1)
  have b2 : (W1.alloc (.cells #[.int .u64 0, .int .u64 0, .slice none 0 0] 95)).heap[W1.heap.size]? = some (.cells [.int .u64 0, .int .u64 0, .slice none 0 0].toArray 95 (0, 0)) := heap_alloc_new W1 _
  have b12 := (Below.heap_alloc W1 (.cells #[.int .u64 0, .int .u64 0, .slice none 0 0] 95) w.heap.size (by omega)).trans b1
  have t2 : tagAt o1 W1.heap.size (D, 1) W1.heap.size = (D, 1) := tagAt_same _ _ _
  have t12 : tagAt o1 W1.heap.size (D, 1) w.heap.size = (D, 0) := by rw [tagAt_other _ _ (by omega)]; exact t1
  have hal := hidden (run_alloc_zero (P := Try.prog) W1 95 _ zc95)
  have z2 : (W1.alloc (.cells #[.int .u64 0, .int .u64 0, .slice none 0 0] 95)).heap.size = w.heap.size + 2 := by simp [z1]
  obtain ⟨W2, hW2⟩ : ∃ W2, W1.alloc (.cells #[.int .u64 0, .int .u64 0, .slice none 0 0] 95) = W2 := ⟨_, rfl⟩
  rw [hW2] at hal s2 b2 b12 z2
  generalize tagAt o1 W1.heap.size (D, 1) = o2 at s2 t2 t12
  rw [z1] at b2 hal t2
  rw [← hW1] at hal
  have c10 := cell_of_block b12 0
  have c11 := cell_of_block b12 1
  have c12 := cell_of_block b12 2
  simp only [List.getElem?_cons_zero, List.getElem?_cons_succ] at c10 c11 c12
  have hH := hidden (And.intro s2 (And.intro b12 (And.intro b2 (And.intro t12 t2))))
  have hlw := hidden hl
  have hl2w := hidden hl2
  have hl2H := hidden (hl2.step s2 (fun h => h) : Lines W2 o2 0 (.slice la2 N2 lc2) ls2)
  have hNH := hidden (And.intro hN hN2)
  have hout := hidden (fun (wr : World) (oj : Own) (st : Step Nobody W2 o2 wr oj) => kept_out (K := [.int .u64 (p.toNat : Int), .int .u64 (c.toNat : Int), .slice la N lc]) (Z := [.int .u64 0, .int .u64 0, .slice none 0 0]) rfl rfl s2 b12 b2 st)
  clear b2 b12 s2 s1 b1 z1 z2 hW1 hW2 hl hl2 t1 t2 t12 hN hN2
  have hmayA := hidden (fun (W : World) (O : Own) (x : LineM) (bv : Value) (hb : Bytes W O bv x.b) => rmay_any top48 x hb)
  have htop : (top48.toNat : Int) = 281474976710656 := by decide
  rw [htop] at hmayA
  clear htop
  have hnI : (0 : Int) ≤ (N : Int) ∧ (N : Int) ≤ 256 := by omega
  have hn2I : (0 : Int) ≤ (N2 : Int) ∧ (N2 : Int) ≤ 1000 := by omega
  have hXf := hidden hXf
  by_cases h0 : N2 = 0
  · subst h0
    have hfin := hidden (show KeptM.appendD ⟨p, c, ls⟩ ls2 = (⟨p, c, ls⟩, 1) by simp only [KeptM.appendD, KeptM.appendOk, hNH.out.2]; simp)
    obtain ⟨hbk, hst9⟩ := hout.out W2 o2 (Step.refl _ _ _)
    obtain ⟨hso, hsb, stE⟩ := hst9 [.int .u64 (p.toNat : Int), .int .u64 (c.toNat : Int), .slice la N lc] rfl rfl
    have hld := hidden (load95 (range_whole hbk))
    have hsoH := hidden hso
    have hsbH := hidden hsb
    have hE := hidden (And.intro stE (hlw.out.step stE (fun h => h)))
    clear hso hsb stE hst9 hbk
    go_enter Try.func99, Try.ntmps99
    go_wp2_with (first
      | ((with_reducible apply lit_load); exact hld.out; simp only [Act.put, List.setIfInBounds_toArray, List.set_cons_zero, List.set_cons_succ])
      | ((with_reducible apply lit_alloc); exact hal.out; simp only [Act.put, List.setIfInBounds_toArray, List.set_cons_zero, List.set_cons_succ])
      | ((with_reducible apply lit_store); exact hsoH.out; simp only [Act.put]))
    refine bodyPost_ret (results_row_tmp rfl _ _ (w.heap.size + 1) 95 _ (0, 0) _ rfl hsbH.out Try.underlying95 rfl size95) rfl ?_
    exact ⟨_, o2, rfl, hE.out.1, _, by rw [hfin.out]; rfl, by rw [hfin.out]; exact hE.out.2⟩
  · have h0I : ((N2 : Int) == 0) = false := by simp; omega
    by_cases h1 : N2 + N ≤ 256
    · have h1I : ¬ (256 : Int) < (N : Int) + (N2 : Int) := by omega
      go_enter Try.func99, Try.ntmps99
      go_wp2_with (first
        | ((with_reducible apply lit_alloc); exact hal.out; simp only [Act.put, List.setIfInBounds_toArray, List.set_cons_zero, List.set_cons_succ]))
      clear h1I
      go_loopw [6] (fun i wr => ∃ (k : Nat) (oj : Own), k ≤ N2 ∧ i = .int .i64 k ∧ Step Nobody W2 o2 wr oj ∧ (ls2.take k).any (badL top48) = false ∧ ((ls2.take k).any fun x => !(x.e == c)) = false) (fun i _ => N2 - (intOf i).toNat)
      case atStart => exact ⟨0, o2, by omega, rfl, Step.refl _ _ _, by simp, by simp⟩
      case round =>
        obtain ⟨k, oj, hk, rfl, hst, hg1, hg2⟩ := hrel
        have hgH := hidden (And.intro hg1 hg2)
        clear hg1 hg2 c10 c11 c12
        by_cases hlt : k < N2
        · have hltI : (k : Int) < (N2 : Int) := by omega
          obtain ⟨x, hx⟩ : ∃ x, ls2[k]? = some x := ⟨_, List.getElem?_eq_getElem (by rw [hNH.out.2]; exact hlt)⟩
          have hstD := hst.drew
          obtain ⟨b, off, bv, rfl, hrg, hby, -, hbl, -⟩ := (hl2H.out.step hstD (fun h => h)).at hx
          have hmy := hidden (hmayA.out wr.drew oj x bv hby)
          have hxH := hidden hx
          have hbk := (hout.out wr.drew oj hstD).1
          have hkl := lt_of_block hbk
          have cC : wr.drew.cell? ⟨w.heap.size, 1, none⟩ = some (.int .u64 (c.toNat : Int)) := cell_of_block hbk 1
          have cE : wr.drew.cell? ⟨b, off + k * 2, none⟩ = some (.int .u64 (x.e.toNat : Int)) := hrg 0 _ rfl
          have hS := hidden (And.intro hrg (And.intro cE cC))
          have hSn := hidden (fun (W : World) (O : Own) (st : Step Nobody wr.drew oj W O) => (show W.rangeAt b (off + k * 2) [.int .u64 (x.e.toNat : Int), bv] ∧ W.cell? ⟨b, off + k * 2, none⟩ = some (.int .u64 (x.e.toNat : Int)) ∧ W.cell? ⟨w.heap.size, 1, none⟩ = some (.int .u64 (c.toNat : Int)) from
            ⟨range_same hrg (st.block _ hbl (fun h => h)), by rw [World.cell?_of_block (w := wr.drew) (a := ⟨b, off + k * 2, none⟩) (st.block _ hbl (fun h => h))]; exact cE, by rw [World.cell?_of_block (w := wr.drew) (a := ⟨w.heap.size, 1, none⟩) (st.block _ hkl (fun h => h))]; exact cC⟩))
          obtain ⟨ba, bc, rfl⟩ := slc_form hby
          obtain ⟨V, hV⟩ : ∃ V, wr.drew = V := ⟨_, rfl⟩
          rw [hV] at hS hSn hmy hstD
          have hVH := hidden hV
          clear hrg hby hx hbk cE cC hbl hkl hV
          cases hb : badL top48 x with
          | true =>
            rw [hb] at hmy
            have hfin := hidden (show KeptM.appendD ⟨p, c, ls⟩ ls2 = (⟨p, c, ls⟩, 1) by simp only [KeptM.appendD, KeptM.appendOk, any_of hxH.out hb]; simp)
            go_wp2_with fail
            refine wp_region_need (fun w' => w'.rangeAt b (off + k * 2) [.int .u64 (x.e.toNat : Int), .slice ba x.b.length bc] ∧ w'.cell? ⟨b, off + k * 2, none⟩ = some (.int .u64 (x.e.toNat : Int)) ∧ w'.cell? ⟨w.heap.size, 1, none⟩ = some (.int .u64 (c.toNat : Int))) (fun _ => true) (by kernel_rfl) (hVH.out ▸ hS.out) (fun hHeld => ?_)
            rw [hVH.out] at hHeld ⊢
            refine wpAnyN_tk (i := 0) (v := ?_) rfl (by kernel_rfl) (fun _ _ _ h => h) (Or.inl ⟨by rfl, ?_⟩) (by assumption) ?_
            rotate_left
            · intro w hSw; ((try dsimp only at hSw); go_simp; (try with_reducible rfl))
            simp only [Act.put, List.setIfInBounds_toArray, List.set_cons_zero, List.set_cons_succ]
            refine wpAnyN_tk (i := 1) (v := ?_) rfl (by kernel_rfl) (fun _ _ _ h => h) (Or.inl ⟨by rfl, ?_⟩) (by assumption) ?_
            rotate_left
            · intro w hSw; ((try dsimp only at hSw); go_simp; (try with_reducible rfl))
            simp only [Act.put, List.setIfInBounds_toArray, List.set_cons_zero, List.set_cons_succ]
            refine wpAnyN_tk (i := 2) (v := ?_) rfl (by kernel_rfl) (fun _ _ _ h => h) (Or.inl ⟨by rfl, ?_⟩) (by assumption) ?_
            rotate_left
            · intro w hSw; ((try dsimp only at hSw); go_simp; (try with_reducible rfl))
            simp only [Act.put, List.setIfInBounds_toArray, List.set_cons_zero, List.set_cons_succ]
            refine wpAnyN_tk (i := 3) (v := .agg [.int .u64 (x.e.toNat : Int), .slice ba x.b.length bc].toArray) rfl (by kernel_rfl) (fun _ _ _ h => h) (yieldsIf_load_mid rfl 113 (.tmp 29) rfl b (off + k * 2) rfl [.int .u64 (x.e.toNat : Int), .slice ba x.b.length bc] _ (fun w h => h.1) Try.underlying113 rfl (by kernel_rfl)) (by assumption) ?_
            simp only [Act.put, List.setIfInBounds_toArray, List.set_cons_zero, List.set_cons_succ]
            refine wpAnyN_one (i := 4) rfl (by kernel_rfl) ?_
            go_wp2_with fail
            refine hmy.out.mono ?_; rintro e1 w3 ⟨v3, o3, rfl, hs3, rfl⟩
            have hS3 := hSn.out w3 o3 hs3
            have hst3 := hstD.trans hs3
            clear hHeld
            go_wp2_with fail
            refine ⟨fun _ => hS3, ?_⟩
            refine wpAnyN_tk (i := 5) (v := ?_) rfl (by kernel_rfl) (fun _ _ _ h => h) (Or.inl ⟨by rfl, ?_⟩) (by assumption) ?_
            rotate_left
            · intro w hSw; ((try dsimp only at hSw); go_simp; (try with_reducible rfl))
            simp only [Act.put, List.setIfInBounds_toArray, List.set_cons_zero, List.set_cons_succ]
            refine wpAnyN_tk (i := 6) (v := ?_) rfl (by kernel_rfl) (fun _ _ _ h => h) (Or.inl ⟨by rfl, ?_⟩) (by assumption) ?_
            rotate_left
            · intro w hSw; ((try dsimp only at hSw); go_simp; (try with_reducible rfl))
            simp only [Act.put, List.setIfInBounds_toArray, List.set_cons_zero, List.set_cons_succ]
            refine wpAnyN_tk (i := 7) (v := undef) rfl (by kernel_rfl) (fun _ _ _ h => h) (Or.inr ⟨by rfl, rfl⟩) (by assumption) ?_
            simp only [Act.put, List.setIfInBounds_toArray, List.set_cons_zero, List.set_cons_succ]
            refine wpAnyN_tk (i := 8) (v := undef) rfl (by kernel_rfl) (fun _ _ _ h => h) (Or.inr ⟨by rfl, rfl⟩) (by assumption) ?_
            simp only [Act.put, List.setIfInBounds_toArray, List.set_cons_zero, List.set_cons_succ]
            refine wpAnyN_tk (i := 9) (v := undef) rfl (by kernel_rfl) (fun _ _ _ h => h) (Or.inr ⟨by rfl, rfl⟩) (by assumption) ?_
            simp only [Act.put, List.setIfInBounds_toArray, List.set_cons_zero, List.set_cons_succ]
            refine wpAnyN_tk (i := 10) (v := undef) rfl (by kernel_rfl) (fun _ _ _ h => h) (Or.inr ⟨by rfl, rfl⟩) (by assumption) ?_
            simp only [Act.put, List.setIfInBounds_toArray, List.set_cons_zero, List.set_cons_succ]
            refine wpAnyN_tk (i := 11) (v := undef) rfl (by kernel_rfl) (fun _ _ _ h => h) (Or.inr ⟨by rfl, rfl⟩) (by assumption) ?_
            simp only [Act.put, List.setIfInBounds_toArray, List.set_cons_zero, List.set_cons_succ]
            refine wpAnyN_tk (i := 12) (v := undef) rfl (by kernel_rfl) (fun _ _ _ h => h) (Or.inr ⟨by rfl, rfl⟩) (by assumption) ?_
            simp only [Act.put, List.setIfInBounds_toArray, List.set_cons_zero, List.set_cons_succ]
            refine wpAnyN_tk (i := 13) (v := undef) rfl (by kernel_rfl) (fun _ _ _ h => h) (Or.inr ⟨by rfl, rfl⟩) (by assumption) ?_
            simp only [Act.put, List.setIfInBounds_toArray, List.set_cons_zero, List.set_cons_succ]
            refine wpAnyN_tk (i := 14) (v := undef) rfl (by kernel_rfl) (fun _ _ _ h => h) (Or.inr ⟨by rfl, rfl⟩) (by assumption) ?_
            simp only [Act.put, List.setIfInBounds_toArray, List.set_cons_zero, List.set_cons_succ]
            refine wpAnyN_tk (i := 15) (v := ?_) rfl (by kernel_rfl) (fun _ _ _ h => h) (Or.inl ⟨by rfl, ?_⟩) (by assumption) ?_
            rotate_left
            · intro w hSw; ((try dsimp only at hSw); go_simp; (try with_reducible rfl))
            simp only [Act.put, List.setIfInBounds_toArray, List.set_cons_zero, List.set_cons_succ]
            refine wpAnyN_done (by kernel_rfl) ?_ _
            have hst3 := hst3
            obtain ⟨hbk, hst9⟩ := hout.out w3 o3 hst3
            obtain ⟨hso, hsb, stE⟩ := hst9 [.int .u64 (p.toNat : Int), .int .u64 (c.toNat : Int), .slice la N lc] rfl rfl
            have hld := hidden (load95 (range_whole hbk))
            have hsoH := hidden hso
            have hsbH := hidden hsb
            have hE := hidden (And.intro stE (hlw.out.step stE (fun h => h)))
            clear hso hsb stE hst9 hbk
            clear hst hs3 hS3
            go_wp2_with (first
              | ((with_reducible apply lit_load); exact hld.out; simp only [Act.put, List.setIfInBounds_toArray, List.set_cons_zero, List.set_cons_succ])
              | ((with_reducible apply lit_store); exact hsoH.out; simp only [Act.put]))
            refine bodyPost_ret (results_row_tmp rfl _ _ (w.heap.size + 1) 95 _ (0, 0) _ rfl hsbH.out Try.underlying95 rfl size95) rfl ?_
            exact ⟨_, o3, rfl, hE.out.1, _, by rw [hfin.out]; rfl, by rw [hfin.out]; exact hE.out.2⟩
          | false =>
            rw [hb] at hmy
            have hga := hidden (take_any hxH.out hgH.out.1 hb)
            cases hq : (!(x.e == c)) with
            | true =>
              have hfin := hidden (show KeptM.appendD ⟨p, c, ls⟩ ls2 = (⟨p, c, ls⟩, 1) by simp only [KeptM.appendD, KeptM.appendOk, any_of (f := fun x => !(x.e == c)) hxH.out hq]; simp)
              have hqI : ((x.e.toNat : Int) == (c.toNat : Int)) = false := by
                simp only [Bool.not_eq_true', beq_eq_false_iff_ne] at hq ⊢
                intro h; exact hq (BitVec.eq_of_toNat_eq (by omega))
              clear hq
              go_wp2_with fail
              refine wp_region_need (fun w' => w'.rangeAt b (off + k * 2) [.int .u64 (x.e.toNat : Int), .slice ba x.b.length bc] ∧ w'.cell? ⟨b, off + k * 2, none⟩ = some (.int .u64 (x.e.toNat : Int)) ∧ w'.cell? ⟨w.heap.size, 1, none⟩ = some (.int .u64 (c.toNat : Int))) (fun _ => true) (by kernel_rfl) (hVH.out ▸ hS.out) (fun hHeld => ?_)
              rw [hVH.out] at hHeld ⊢
              refine wpAnyN_tk (i := 0) (v := ?_) rfl (by kernel_rfl) (fun _ _ _ h => h) (Or.inl ⟨by rfl, ?_⟩) (by assumption) ?_
              rotate_left
              · intro w hSw; ((try dsimp only at hSw); go_simp; (try with_reducible rfl))
              simp only [Act.put, List.setIfInBounds_toArray, List.set_cons_zero, List.set_cons_succ]
              refine wpAnyN_tk (i := 1) (v := ?_) rfl (by kernel_rfl) (fun _ _ _ h => h) (Or.inl ⟨by rfl, ?_⟩) (by assumption) ?_
              rotate_left
              · intro w hSw; ((try dsimp only at hSw); go_simp; (try with_reducible rfl))
              simp only [Act.put, List.setIfInBounds_toArray, List.set_cons_zero, List.set_cons_succ]
              refine wpAnyN_tk (i := 2) (v := ?_) rfl (by kernel_rfl) (fun _ _ _ h => h) (Or.inl ⟨by rfl, ?_⟩) (by assumption) ?_
              rotate_left
              · intro w hSw; ((try dsimp only at hSw); go_simp; (try with_reducible rfl))
              simp only [Act.put, List.setIfInBounds_toArray, List.set_cons_zero, List.set_cons_succ]
              refine wpAnyN_tk (i := 3) (v := .agg [.int .u64 (x.e.toNat : Int), .slice ba x.b.length bc].toArray) rfl (by kernel_rfl) (fun _ _ _ h => h) (yieldsIf_load_mid rfl 113 (.tmp 29) rfl b (off + k * 2) rfl [.int .u64 (x.e.toNat : Int), .slice ba x.b.length bc] _ (fun w h => h.1) Try.underlying113 rfl (by kernel_rfl)) (by assumption) ?_
              simp only [Act.put, List.setIfInBounds_toArray, List.set_cons_zero, List.set_cons_succ]
              refine wpAnyN_one (i := 4) rfl (by kernel_rfl) ?_
              go_wp2_with fail
              refine hmy.out.mono ?_; rintro e1 w3 ⟨v3, o3, rfl, hs3, rfl⟩
              have hS3 := hSn.out w3 o3 hs3
              have hst3 := hstD.trans hs3
              clear hHeld
              go_wp2_with fail
              refine ⟨fun _ => hS3, ?_⟩
              refine wpAnyN_tk (i := 5) (v := ?_) rfl (by kernel_rfl) (fun _ _ _ h => h) (Or.inl ⟨by rfl, ?_⟩) (by assumption) ?_
              rotate_left
              · intro w hSw; ((try dsimp only at hSw); go_simp; (try with_reducible rfl))
              simp only [Act.put, List.setIfInBounds_toArray, List.set_cons_zero, List.set_cons_succ]
              refine wpAnyN_tk (i := 6) (v := ?_) rfl (by kernel_rfl) (fun _ _ _ h => h) (Or.inl ⟨by rfl, ?_⟩) (by assumption) ?_
              rotate_left
              · intro w hSw; ((try dsimp only at hSw); go_simp; (try with_reducible rfl))
              simp only [Act.put, List.setIfInBounds_toArray, List.set_cons_zero, List.set_cons_succ]
              refine wpAnyN_tk (i := 7) (v := ?_) rfl (by kernel_rfl) (fun _ _ _ h => h) (Or.inl ⟨by rfl, ?_⟩) (by assumption) ?_
              rotate_left
              · intro w hSw; ((try dsimp only at hSw); go_simp; (try with_reducible rfl))
              simp only [Act.put, List.setIfInBounds_toArray, List.set_cons_zero, List.set_cons_succ]
              refine wpAnyN_tk (i := 8) (v := ?_) rfl (by kernel_rfl) (fun _ _ _ h => h) (Or.inl ⟨by rfl, ?_⟩) (by assumption) ?_
              rotate_left
              · intro w hSw; ((try dsimp only at hSw); go_simp; (try with_reducible rfl))
              simp only [Act.put, List.setIfInBounds_toArray, List.set_cons_zero, List.set_cons_succ]
              refine wpAnyN_tk (i := 9) (v := ?_) rfl (by kernel_rfl) (fun _ _ _ h => h) (Or.inl ⟨by rfl, ?_⟩) (by assumption) ?_
              rotate_left
              · intro w hSw; ((try dsimp only at hSw); go_simp; (try with_reducible rfl))
              simp only [Act.put, List.setIfInBounds_toArray, List.set_cons_zero, List.set_cons_succ]
              refine wpAnyN_tk (i := 10) (v := ?_) rfl (by kernel_rfl) (fun _ _ _ h => h) (Or.inl ⟨by rfl, ?_⟩) (by assumption) ?_
              rotate_left
              · intro w hSw; ((try dsimp only at hSw); go_simp; (try with_reducible rfl))
              simp only [Act.put, List.setIfInBounds_toArray, List.set_cons_zero, List.set_cons_succ]
              refine wpAnyN_tk (i := 11) (v := ?_) rfl (by kernel_rfl) (fun _ _ _ h => h) (Or.inl ⟨by rfl, ?_⟩) (by assumption) ?_
              rotate_left
              · intro w hSw; ((try dsimp only at hSw); go_simp; (try with_reducible rfl))
              simp only [Act.put, List.setIfInBounds_toArray, List.set_cons_zero, List.set_cons_succ]
              refine wpAnyN_tk (i := 12) (v := ?_) rfl (by kernel_rfl) (fun _ _ _ h => h) (Or.inl ⟨by rfl, ?_⟩) (by assumption) ?_
              rotate_left
              · intro w hSw; ((try dsimp only at hSw); go_simp; (try with_reducible rfl))
              simp only [Act.put, List.setIfInBounds_toArray, List.set_cons_zero, List.set_cons_succ]
              refine wpAnyN_tk (i := 13) (v := ?_) rfl (by kernel_rfl) (fun _ _ _ h => h) (Or.inl ⟨by rfl, ?_⟩) (by assumption) ?_
              rotate_left
              · intro w hSw; ((try dsimp only at hSw); go_simp; (try with_reducible rfl))
              simp only [Act.put, List.setIfInBounds_toArray, List.set_cons_zero, List.set_cons_succ]
              refine wpAnyN_tk (i := 14) (v := ?_) rfl (by kernel_rfl) (fun _ _ _ h => h) (Or.inl ⟨by rfl, ?_⟩) (by assumption) ?_
              rotate_left
              · intro w hSw; ((try dsimp only at hSw); go_simp; (try with_reducible rfl))
              simp only [Act.put, List.setIfInBounds_toArray, List.set_cons_zero, List.set_cons_succ]
              refine wpAnyN_tk (i := 15) (v := ?_) rfl (by kernel_rfl) (fun _ _ _ h => h) (Or.inl ⟨by rfl, ?_⟩) (by assumption) ?_
              rotate_left
              · intro w hSw; ((try dsimp only at hSw); go_simp; (try with_reducible rfl))
              simp only [Act.put, List.setIfInBounds_toArray, List.set_cons_zero, List.set_cons_succ]
              refine wpAnyN_done (by kernel_rfl) ?_ _
              obtain ⟨hbk, hst9⟩ := hout.out w3 o3 hst3
              obtain ⟨hso, hsb, stE⟩ := hst9 [.int .u64 (p.toNat : Int), .int .u64 (c.toNat : Int), .slice la N lc] rfl rfl
              have hld := hidden (load95 (range_whole hbk))
              have hsoH := hidden hso
              have hsbH := hidden hsb
              have hE := hidden (And.intro stE (hlw.out.step stE (fun h => h)))
              clear hso hsb stE hst9 hbk
              clear hst hs3 hS3
              go_wp2_with (first
                | ((with_reducible apply lit_load); exact hld.out; simp only [Act.put, List.setIfInBounds_toArray, List.set_cons_zero, List.set_cons_succ])
                | ((with_reducible apply lit_store); exact hsoH.out; simp only [Act.put]))
              refine bodyPost_ret (results_row_tmp rfl _ _ (w.heap.size + 1) 95 _ (0, 0) _ rfl hsbH.out Try.underlying95 rfl size95) rfl ?_
              exact ⟨_, o3, rfl, hE.out.1, _, by rw [hfin.out]; rfl, by rw [hfin.out]; exact hE.out.2⟩
            | false =>
              have hgb := hidden (take_any (f := fun x => !(x.e == c)) hxH.out hgH.out.2 hq)
              have hqI : ((x.e.toNat : Int) == (c.toNat : Int)) = true := by
                simp only [Bool.not_eq_false', beq_iff_eq] at hq ⊢
                rw [hq]
              clear hq
              go_wp2_with fail
              refine wp_region_need (fun w' => w'.rangeAt b (off + k * 2) [.int .u64 (x.e.toNat : Int), .slice ba x.b.length bc] ∧ w'.cell? ⟨b, off + k * 2, none⟩ = some (.int .u64 (x.e.toNat : Int)) ∧ w'.cell? ⟨w.heap.size, 1, none⟩ = some (.int .u64 (c.toNat : Int))) (fun _ => true) (by kernel_rfl) (hVH.out ▸ hS.out) (fun hHeld => ?_)
              rw [hVH.out] at hHeld ⊢
              refine wpAnyN_tk (i := 0) (v := ?_) rfl (by kernel_rfl) (fun _ _ _ h => h) (Or.inl ⟨by rfl, ?_⟩) (by assumption) ?_
              rotate_left
              · intro w hSw; ((try dsimp only at hSw); go_simp; (try with_reducible rfl))
              simp only [Act.put, List.setIfInBounds_toArray, List.set_cons_zero, List.set_cons_succ]
              refine wpAnyN_tk (i := 1) (v := ?_) rfl (by kernel_rfl) (fun _ _ _ h => h) (Or.inl ⟨by rfl, ?_⟩) (by assumption) ?_
              rotate_left
              · intro w hSw; ((try dsimp only at hSw); go_simp; (try with_reducible rfl))
              simp only [Act.put, List.setIfInBounds_toArray, List.set_cons_zero, List.set_cons_succ]
              refine wpAnyN_tk (i := 2) (v := ?_) rfl (by kernel_rfl) (fun _ _ _ h => h) (Or.inl ⟨by rfl, ?_⟩) (by assumption) ?_
              rotate_left
              · intro w hSw; ((try dsimp only at hSw); go_simp; (try with_reducible rfl))
              simp only [Act.put, List.setIfInBounds_toArray, List.set_cons_zero, List.set_cons_succ]
              refine wpAnyN_tk (i := 3) (v := .agg [.int .u64 (x.e.toNat : Int), .slice ba x.b.length bc].toArray) rfl (by kernel_rfl) (fun _ _ _ h => h) (yieldsIf_load_mid rfl 113 (.tmp 29) rfl b (off + k * 2) rfl [.int .u64 (x.e.toNat : Int), .slice ba x.b.length bc] _ (fun w h => h.1) Try.underlying113 rfl (by kernel_rfl)) (by assumption) ?_
              simp only [Act.put, List.setIfInBounds_toArray, List.set_cons_zero, List.set_cons_succ]
              refine wpAnyN_one (i := 4) rfl (by kernel_rfl) ?_
              go_wp2_with fail
              refine hmy.out.mono ?_; rintro e1 w3 ⟨v3, o3, rfl, hs3, rfl⟩
              have hS3 := hSn.out w3 o3 hs3
              have hst3 := hstD.trans hs3
              clear hHeld
              go_wp2_with fail
              refine ⟨fun _ => hS3, ?_⟩
              refine wpAnyN_tk (i := 5) (v := ?_) rfl (by kernel_rfl) (fun _ _ _ h => h) (Or.inl ⟨by rfl, ?_⟩) (by assumption) ?_
              rotate_left
              · intro w hSw; ((try dsimp only at hSw); go_simp; (try with_reducible rfl))
              simp only [Act.put, List.setIfInBounds_toArray, List.set_cons_zero, List.set_cons_succ]
              refine wpAnyN_tk (i := 6) (v := ?_) rfl (by kernel_rfl) (fun _ _ _ h => h) (Or.inl ⟨by rfl, ?_⟩) (by assumption) ?_
              rotate_left
              · intro w hSw; ((try dsimp only at hSw); go_simp; (try with_reducible rfl))
              simp only [Act.put, List.setIfInBounds_toArray, List.set_cons_zero, List.set_cons_succ]
              refine wpAnyN_tk (i := 7) (v := ?_) rfl (by kernel_rfl) (fun _ _ _ h => h) (Or.inl ⟨by rfl, ?_⟩) (by assumption) ?_
              rotate_left
              · intro w hSw; ((try dsimp only at hSw); go_simp; (try with_reducible rfl))
              simp only [Act.put, List.setIfInBounds_toArray, List.set_cons_zero, List.set_cons_succ]
              refine wpAnyN_tk (i := 8) (v := ?_) rfl (by kernel_rfl) (fun _ _ _ h => h) (Or.inl ⟨by rfl, ?_⟩) (by assumption) ?_
              rotate_left
              · intro w hSw; ((try dsimp only at hSw); go_simp; (try with_reducible rfl))
              simp only [Act.put, List.setIfInBounds_toArray, List.set_cons_zero, List.set_cons_succ]
              refine wpAnyN_tk (i := 9) (v := ?_) rfl (by kernel_rfl) (fun _ _ _ h => h) (Or.inl ⟨by rfl, ?_⟩) (by assumption) ?_
              rotate_left
              · intro w hSw; ((try dsimp only at hSw); go_simp; (try with_reducible rfl))
              simp only [Act.put, List.setIfInBounds_toArray, List.set_cons_zero, List.set_cons_succ]
              refine wpAnyN_tk (i := 10) (v := ?_) rfl (by kernel_rfl) (fun _ _ _ h => h) (Or.inl ⟨by rfl, ?_⟩) (by assumption) ?_
              rotate_left
              · intro w hSw; ((try dsimp only at hSw); go_simp; (try with_reducible rfl))
              simp only [Act.put, List.setIfInBounds_toArray, List.set_cons_zero, List.set_cons_succ]
              refine wpAnyN_tk (i := 11) (v := ?_) rfl (by kernel_rfl) (fun _ _ _ h => h) (Or.inl ⟨by rfl, ?_⟩) (by assumption) ?_
              rotate_left
              · intro w hSw; ((try dsimp only at hSw); go_simp; (try with_reducible rfl))
              simp only [Act.put, List.setIfInBounds_toArray, List.set_cons_zero, List.set_cons_succ]
              refine wpAnyN_tk (i := 12) (v := ?_) rfl (by kernel_rfl) (fun _ _ _ h => h) (Or.inl ⟨by rfl, ?_⟩) (by assumption) ?_
              rotate_left
              · intro w hSw; ((try dsimp only at hSw); go_simp; (try with_reducible rfl))
              simp only [Act.put, List.setIfInBounds_toArray, List.set_cons_zero, List.set_cons_succ]
              refine wpAnyN_tk (i := 13) (v := ?_) rfl (by kernel_rfl) (fun _ _ _ h => h) (Or.inl ⟨by rfl, ?_⟩) (by assumption) ?_
              rotate_left
              · intro w hSw; ((try dsimp only at hSw); go_simp; (try with_reducible rfl))
              simp only [Act.put, List.setIfInBounds_toArray, List.set_cons_zero, List.set_cons_succ]
              refine wpAnyN_tk (i := 14) (v := ?_) rfl (by kernel_rfl) (fun _ _ _ h => h) (Or.inl ⟨by rfl, ?_⟩) (by assumption) ?_
              rotate_left
              · intro w hSw; ((try dsimp only at hSw); go_simp; (try with_reducible rfl))
              simp only [Act.put, List.setIfInBounds_toArray, List.set_cons_zero, List.set_cons_succ]
              refine wpAnyN_tk (i := 15) (v := ?_) rfl (by kernel_rfl) (fun _ _ _ h => h) (Or.inl ⟨by rfl, ?_⟩) (by assumption) ?_
              rotate_left
              · intro w hSw; ((try dsimp only at hSw); go_simp; (try with_reducible rfl))
              simp only [Act.put, List.setIfInBounds_toArray, List.set_cons_zero, List.set_cons_succ]
              refine wpAnyN_done (by kernel_rfl) ?_ _
              have hst3 := hidden hst3
              clear hst hs3 hS3 hmy hS hSn hstD
              go_wp2_with fail
              go_roundw
              case rel => exact ⟨k + 1, o3, by omega, by go_num, hst3.out, hga.out, hgb.out⟩
              case measure => simp [intOf]; omega
        · obtain rfl : N2 = k := by omega
          have hfin := hidden (show KeptM.appendD ⟨p, c, ls⟩ ls2 = (⟨p, c, ls ++ ls2⟩, 0) by
            obtain ⟨ha, hb⟩ := hgH.out
            rw [← hNH.out.2, List.take_length] at ha hb
            simp only [KeptM.appendD, KeptM.appendOk, hNH.out.2, ha, hb]
            simp only [hNH.out.1, h1]
            simp; omega)
          clear h0 h1
          have hX0 : X ≠ 0 := by omega
          obtain ⟨hbk, -⟩ := hout.out wr oj hst
          have c12 : wr.cell? ⟨w.heap.size, 2, none⟩ = some (.slice la N lc) := cell_of_block hbk 2
          obtain ⟨s2, b12, b2, t12, t2⟩ := hH.out
          have hw := s2.trans hst
          obtain ⟨nv1, w3, o3, hr1, hL1, sX1⟩ := (LRow.nil wr oj 0 (X, 0)).appendLines hX0 (hlw.out.step hw (fun h => h)) (by rw [hNH.out.1]; simp; omega)
          rw [List.nil_append] at hL1
          have nX0 : ¬ Only X 0 := fun h => hX0 h.symm
          obtain ⟨nv2, w4, o4, hr2, hL2, sX2⟩ := hL1.appendLines hX0 ((hl2w.out.step hw (fun h => h)).step sX1 nX0) (by rw [hNH.out.1, hNH.out.2]; omega)
          have sX := sX1.trans sX2
          have oj1 : oj w.heap.size = (D, 0) := by rw [hst.own _ (lt_of_block b12)]; exact t12
          have oj2 : oj (w.heap.size + 1) = (D, 1) := by rw [hst.own _ (lt_of_block b2)]; exact t2
          have b2r := (hst.block _ (lt_of_block b2) (fun h => h)).trans b2
          have nXD : ¬ Only X D := fun h => by change D = X at h; omega
          have k4 := (sX.block _ (lt_of_block hbk) (by rw [oj1]; exact nXD)).trans hbk
          have r4 := (sX.block _ (lt_of_block b2r) (by rw [oj2]; exact nXD)).trans b2r
          have u4 : o4 w.heap.size = (D, 0) := by rw [sX.own _ (lt_of_block hbk)]; exact oj1
          have u4' : o4 (w.heap.size + 1) = (D, 1) := by rw [sX.own _ (lt_of_block b2r)]; exact oj2
          obtain ⟨na, nc, rfl⟩ := hL2.form
          obtain ⟨N3, hN3⟩ : ∃ N3, (ls ++ ls2).length = N3 := ⟨_, rfl⟩
          rw [hN3] at hr2 hL2
          clear hN3
          have k5 := heap_setCell_at (i := 2) (.slice na N3 nc) k4
          simp only [List.set_cons_zero, List.set_cons_succ] at k5
          have f4 := free_of_block k4 2
          have c4 := cell_of_block k4 2
          simp only [List.getElem?_cons_zero, List.getElem?_cons_succ] at c4
          have r5 : (w4.setCell ⟨w.heap.size, 2, none⟩ (.slice na N3 nc)).heap[w.heap.size + 1]? = _ := (Below.heap_setCell _ _ _ _ (by show w.heap.size + 1 ≠ w.heap.size; omega)).trans r4
          have hld := hidden (load95 (range_whole k5))
          obtain ⟨hso, hsb⟩ := run_store_agg (P := Try.prog) (ty := 95) (vs := [.int .u64 (p.toNat : Int), .int .u64 (c.toNat : Int), .slice na N3 nc]) r5 rfl (by kernel_rfl) rfl
          have hsoH := hidden hso
          have hsbH := hidden hsb
          have hr1H := hidden hr1
          have hr2H := hidden hr2
          have stF := ((((hw.only X).trans sX).setCell (a := ⟨w.heap.size, 2, none⟩) (.slice na N3 nc) (.inr (Nat.le_refl _))).setCells (w.heap.size + 1) 0 [.int .u64 (p.toNat : Int), .int .u64 (c.toNat : Int), .slice na N3 nc] (.inr (by omega))).untag hXf.out
          have sF := ((Step.refl (Only D) w4 o4).setCell (a := ⟨w.heap.size, 2, none⟩) (.slice na N3 nc) (.inl (by show (o4 w.heap.size).1 = D; rw [u4]))).setCells (w.heap.size + 1) 0 [.int .u64 (p.toNat : Int), .int .u64 (c.toNat : Int), .slice na N3 nc] (.inl (by show (o4 (w.heap.size + 1)).1 = D; rw [u4']))
          have hE := hidden (And.intro stF (hL2.step sF (fun h => by change X = D at h; omega) (fun h => by change 0 = D at h; omega)).plain)
          have h1c : (Value.slice na N3 nc).oneCell' = true := rfl
          clear hso hsb hr1 hr2 stF sF k5 r5 k4 r4 b2r hL1 hL2 sX sX1 sX2 hw s2 b12 b2 hbk hst
          go_wp2_with (first
            | ((with_reducible apply lit_load); exact hld.out; simp only [Act.put, List.setIfInBounds_toArray, List.set_cons_zero, List.set_cons_succ])
            | ((with_reducible apply lit_append); exact hr1H.out; simp only [Act.put, List.setIfInBounds_toArray, List.set_cons_zero, List.set_cons_succ])
            | ((with_reducible apply lit_store); exact hsoH.out; simp only [Act.put])
            | ((with_reducible apply lit_append); exact hr2H.out; simp only [Act.put, List.setIfInBounds_toArray, List.set_cons_zero, List.set_cons_succ]))
          refine bodyPost_ret (results_row_tmp rfl _ _ (w.heap.size + 1) 95 _ (0, 0) _ rfl hsbH.out Try.underlying95 rfl size95) rfl ?_
          exact ⟨_, _, rfl, hE.out.1, _, by rw [hfin.out]; rfl, by rw [hfin.out]; exact hE.out.2⟩
    · have h1I : (256 : Int) < (N : Int) + (N2 : Int) := by omega
      have hfin := hidden (show KeptM.appendD ⟨p, c, ls⟩ ls2 = (⟨p, c, ls⟩, 1) by simp only [KeptM.appendD, KeptM.appendOk, hNH.out.1, hNH.out.2]; simp [h1])
      obtain ⟨hbk, hst9⟩ := hout.out W2 o2 (Step.refl _ _ _)
      obtain ⟨hso, hsb, stE⟩ := hst9 [.int .u64 (p.toNat : Int), .int .u64 (c.toNat : Int), .slice la N lc] rfl rfl
      have hld := hidden (load95 (range_whole hbk))
      have hsoH := hidden hso
      have hsbH := hidden hsb
      have hE := hidden (And.intro stE (hlw.out.step stE (fun h => h)))
      clear hso hsb stE hst9 hbk
      go_enter Try.func99, Try.ntmps99
      go_wp2_with (first
        | ((with_reducible apply lit_load); exact hld.out; simp only [Act.put, List.setIfInBounds_toArray, List.set_cons_zero, List.set_cons_succ])
        | ((with_reducible apply lit_alloc); exact hal.out; simp only [Act.put, List.setIfInBounds_toArray, List.set_cons_zero, List.set_cons_succ])
        | ((with_reducible apply lit_store); exact hsoH.out; simp only [Act.put]))
      refine bodyPost_ret (results_row_tmp rfl _ _ (w.heap.size + 1) 95 _ (0, 0) _ rfl hsbH.out Try.underlying95 rfl size95) rfl ?_
      exact ⟨_, o2, rfl, hE.out.1, _, by rw [hfin.out]; rfl, by rw [hfin.out]; exact hE.out.2⟩
end
end Go.Proofs.YtfgggkheadfiaaaR
