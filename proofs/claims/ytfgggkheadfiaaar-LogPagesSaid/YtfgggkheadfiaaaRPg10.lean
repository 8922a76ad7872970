/- Contract of the document's answer of layer 2: the sum of bytes. -/
import Derived.Test.YtfgggkheadfiaaaRPg9
namespace Go.Proofs.YtfgggkheadfiaaaR
open Go Go.RowKit
attribute [local go_sem ↓] Go.wp_at_zero Go.wp_at_succ

theorem bytebit_all : ∀ (c : Fin 256) (j : Fin 8), (bits .and .u8 ((c.val : Int) / 2 ^ j.val) 1 == 1) = (BitVec.ofNat 64 c.val).getLsbD j.val := by decide +kernel
theorem bytebit (c : UInt8) (j : Nat) (h : j < 8) : (bits .and .u8 ((c.toNat : Int) / 2 ^ j) 1 == 1) = (BitVec.ofNat 64 c.toNat).getLsbD j := bytebit_all ⟨c.toNat, c.toNat_lt⟩ ⟨j, h⟩
theorem bytebit_high (c : UInt8) (j : Nat) (h : 8 ≤ j) : (BitVec.ofNat 64 c.toNat).getLsbD j = false := by
  rw [BitVec.getLsbD_ofNat]
  have : c.toNat.testBit j = false := Nat.testBit_lt_two_pow (Nat.lt_of_lt_of_le c.toNat_lt (Nat.pow_le_pow_right (by omega) h))
  rw [this]; simp
theorem shr_step (M : BitVec 64) (k : Nat) (hk : k < 64) : (M >>> (63 - k)).toNat = 2 * (M >>> (64 - k)).toNat + (M.getLsbD (63 - k)).toNat := by
  rw [BitVec.toNat_ushiftRight, BitVec.toNat_ushiftRight, Nat.shiftRight_eq_div_pow, Nat.shiftRight_eq_div_pow, show 64 - k = (63 - k) + 1 from by omega, Nat.pow_succ, ← Nat.div_div_eq_div_mul]
  have : M.getLsbD (63 - k) = decide (M.toNat / 2 ^ (63 - k) % 2 = 1) := by
    rw [← BitVec.testBit_toNat, Nat.testBit_eq_decide_div_mod_eq]
  rw [this]
  by_cases h : M.toNat / 2 ^ (63 - k) % 2 = 1
  · simp [h]; omega
  · simp [h]; omega
set_option maxRecDepth 100000 in
set_option maxHeartbeats 3200000 in
theorem rsum_any {w : World} {o : Own} {v : Value} {l : List UInt8} (hb : Bytes w o v l) (hl : l.length ≤ 1000000) :
    Calls Try.prog 123 #[v] w (Ret Nobody w o fun v _ _ => v = .int .u64 ((crcSum l).toNat : Int)) := by
  obtain ⟨a, c, rfl⟩ := slc_form hb
  have sA := (Step.refl Nobody w o).alloc (.cells (bits64 fun _ => false).toArray 204) (0, 0)
  have hA : (w.alloc (.cells (bits64 fun _ => false).toArray 204)).heap[w.heap.size]? = some (.cells (bits64 fun _ => false).toArray 204 (0, 0)) := heap_alloc_new w _
  have hAo : tagAt o w.heap.size (0, 0) w.heap.size = (0, 0) := tagAt_same _ _ _
  obtain ⟨W, hW⟩ : ∃ W, w.alloc (.cells (bits64 fun _ => false).toArray 204) = W := ⟨_, rfl⟩
  rw [hW] at sA hA
  generalize tagAt o w.heap.size (0, 0) = o3 at *
  obtain ⟨A, hAE⟩ : ∃ A, w.heap.size = A := ⟨_, rfl⟩
  rw [hAE] at hA hAo
  obtain ⟨m, hm⟩ : ∃ m, l.length = m := ⟨_, rfl⟩
  have hmH := hidden hm
  have hall : l.take m = l := List.take_of_length_le (by omega)
  have hallH := hidden hall
  have hbH := hidden hb
  have hWH := hidden hW
  rw [hm] at hl ⊢
  clear hW hall hm hb
  go_enter Try.func123, Try.ntmps123
  go_wp2_with fail
  go_loopw [4] (fun i wr => ∃ k : Nat, k ≤ 64 ∧ i = .int .i64 k ∧ wr.heap[A]? = some (.cells (bits64 fun i => decide (i < k)).toArray 204 (0, 0)) ∧ Step Nobody w o wr o3) (fun i _ => 64 - (intOf i).toNat)
  case atStart =>
    have e : ∀ W', W = W' → W'.heap[A]? = some (.cells (bits64 fun i => decide (i < 0)).toArray 204 (0, 0)) ∧ Step Nobody w o W' o3 := fun W' h => by
      subst h
      exact ⟨by rw [hA]; rfl, sA⟩
    exact ⟨0, by omega, rfl, e _ hWH.out.symm⟩
  case round =>
    clear hA sA hWH
    obtain ⟨k, hk, rfl, hA, hst⟩ := hrel
    by_cases hlt : k < 64
    · have hcA : wr.cell? ⟨A, k, none⟩ = some (.bool (decide (k < k))) := by rw [cell_of_block hA, get_bits64 _ _ hlt]
      have hfA := free_of_block hA k
      have hgs := heap_setCell_at (i := k) (.bool true) hA
      rw [set_bits64 _ (fun i => decide (i < k + 1)) k true (by simp) (fun i hi hne => by
        by_cases h : i < k
        · simp [h, show i < k + 1 by omega]
        · simp [h, show ¬ i < k + 1 by omega])] at hgs
      have hss := hst.setCell (a := ⟨A, k, none⟩) (.bool true) (.inr (by show w.heap.size ≤ A; omega))
      have hH := hidden (And.intro hgs hss)
      clear hgs hss hA hst
      go_wp2_with fail
      go_roundw
      case rel => exact ⟨k + 1, by omega, by go_num, hH.out.1, hH.out.2⟩
      case measure => simp [intOf]; omega
    · have hkm : k = 64 := by omega
      subst hkm
      rw [show ((64 : Nat) : Int) = 64 from rfl]
      have hA2 : wr.heap[A]? = some (.cells (bits64 (BitVec.allOnes 64).getLsbD).toArray 204 (0, 0)) := by
        rw [hA, bits64_congr (g := (BitVec.allOnes 64).getLsbD) (fun i hi => by
          have : (BitVec.allOnes 64).getLsbD i = true := by rw [BitVec.getLsbD_allOnes]; simpa using hi
          rw [this]; simp [hi])]
      clear hA
      go_wp2_with fail
      go_loopw [5] (fun i wr => ∃ (k : Nat) (oj : Own), k ≤ m ∧ i = .int .i64 k ∧ wr.heap[A]? = some (.cells (bits64 (crcRun (l.take k)).getLsbD).toArray 204 (0, 0)) ∧ Step Nobody w o wr oj ∧ oj A = (0, 0)) (fun i _ => m - (intOf i).toNat)
      case atStart => exact ⟨0, o3, Nat.zero_le _, rfl, hA2, hst, hAo⟩
      case round =>
        clear hA2 hst hAo
        obtain ⟨k, oj, hk, rfl, hA, hst, hAo⟩ := hrel
        by_cases hlt : k < m
        · obtain ⟨b, hb⟩ : ∃ b, l[k]? = some b := ⟨_, List.getElem?_eq_getElem (by rw [hmH.out]; exact hlt)⟩
          have hrun : crcByte (crcRun (l.take k)) b = crcRun (l.take (k + 1)) := by
            rw [List.take_add_one, hb]
            simp only [Option.toList]
            rw [crcRun_snoc]
          obtain ⟨N, hN⟩ : ∃ N, crcRun (l.take k) = N := ⟨_, rfl⟩
          rw [hN] at hA hrun
          have hrunH := hidden hrun
          have hbk := hidden hb
          clear hrun hN hb
          go_wp2_with fail
          go_loopw [6] (fun i wr => ∃ j : Nat, j ≤ 8 ∧ i = .int .i64 j ∧ wr.heap[A]? = some (.cells (bits64 fun i => if i < j then (N ^^^ BitVec.ofNat 64 b.toNat).getLsbD i else N.getLsbD i).toArray 204 (0, 0)) ∧ Step Nobody w o wr oj) (fun i _ => 8 - (intOf i).toNat)
          case atStart => exact ⟨0, by omega, rfl, by rw [hA]; rfl, hst⟩
          case round =>
            clear hA hst
            obtain ⟨j, hj, rfl, hA, hst⟩ := hrel
            by_cases hlt2 : j < 8
            · have hA' : wr.drew.heap[A]? = some (.cells (bits64 fun i => if i < j then (N ^^^ BitVec.ofNat 64 b.toNat).getLsbD i else N.getLsbD i).toArray 204 (0, 0)) := hA
              have hcA : wr.drew.cell? ⟨A, j, none⟩ = some (.bool (N.getLsbD j)) := by rw [cell_of_block hA', get_bits64 _ _ (by omega), if_neg (by omega)]
              have hfA := free_of_block hA' j
              obtain ⟨bb, bo, hae, hcb, -, -⟩ := Slc.cell (n := l.length) (cs := bvs l) (hbH.out.step hst.drew (fun h => h)) k (x := bv b) (by rw [get_bvs, hbk.out]; rfl)
              subst hae
              have hcb' : wr.drew.cell? ⟨bb, bo + k, none⟩ = some (.int .u8 (b.toNat : Int)) := hcb
              have hbt := bytebit b j hlt2
              have hnew : (N ^^^ BitVec.ofNat 64 b.toNat).getLsbD j = (N.getLsbD j != (BitVec.ofNat 64 b.toNat).getLsbD j) := by rw [BitVec.getLsbD_xor]
              have hgs := heap_setCell_at (i := j) (.bool ((N ^^^ BitVec.ofNat 64 b.toNat).getLsbD j)) hA'
              rw [set_bits64 _ (fun i => if i < j + 1 then (N ^^^ BitVec.ofNat 64 b.toNat).getLsbD i else N.getLsbD i) j _ (by simp) (fun i hi hne => by
                by_cases h : i < j
                · simp [h, show i < j + 1 by omega]
                · simp [h, show ¬ i < j + 1 by omega])] at hgs
              have hss := hst.drew.setCell (a := ⟨A, j, none⟩) (.bool ((N ^^^ BitVec.ofNat 64 b.toNat).getLsbD j)) (.inr (by show w.heap.size ≤ A; omega))
              have hH := hidden (And.intro hgs hss)
              have hb0 : (0 : Int) ≤ (b.toNat : Int) := by omega
              have hj64 : (j : Int) < 64 := by omega
              have hkm : (k : Int) < (l.length : Int) := by rw [hmH.out]; omega
              have hb1 : (b.toNat : Int) ≤ 255 := by have := b.toNat_lt; omega
              have hbtH := hidden hbt
              have hnewH := hidden hnew
              clear hgs hss hA hst hbt hnew hA' hcb
              generalize hxb : N.getLsbD j = xb at *
              generalize hyb : (BitVec.ofNat 64 b.toNat).getLsbD j = yb at *
              generalize hzb : (N ^^^ BitVec.ofNat 64 b.toNat).getLsbD j = zb at *
              clear hxb hyb hzb
              go_wp2_with fail
              refine wp_region_need (fun w' => w'.cell? ⟨A, j, none⟩ = some (.bool xb) ∧ w'.cell? ⟨bb, bo + k, none⟩ = some (.int .u8 (b.toNat : Int))) (fun i => decide (i < 14)) (by kernel_rfl) ⟨hcA, hcb'⟩ (fun hHeld => ?_)
              refine wpAnyN_take (i := 0) (v := ?_) rfl (by kernel_rfl) (by kernel_rfl) (by kernel_rfl) (by kernel_rfl) (fun _ _ _ h => h) (Or.inl ⟨by rfl, ?_⟩) (by assumption) ?_
              rotate_left
              · intro w hSw; ((try dsimp only at hSw); go_simp; (try with_reducible rfl))
              simp only [Act.put, List.setIfInBounds_toArray, List.set_cons_zero, List.set_cons_succ]
              refine wpAnyN_take (i := 1) (v := ?_) rfl (by kernel_rfl) (by kernel_rfl) (by kernel_rfl) (by kernel_rfl) (fun _ _ _ h => h) (Or.inl ⟨by rfl, ?_⟩) (by assumption) ?_
              rotate_left
              · intro w hSw; ((try dsimp only at hSw); go_simp; (try with_reducible rfl))
              simp only [Act.put, List.setIfInBounds_toArray, List.set_cons_zero, List.set_cons_succ]
              refine wpAnyN_take (i := 2) (v := ?_) rfl (by kernel_rfl) (by kernel_rfl) (by kernel_rfl) (by kernel_rfl) (fun _ _ _ h => h) (Or.inl ⟨by rfl, ?_⟩) (by assumption) ?_
              rotate_left
              · intro w hSw; ((try dsimp only at hSw); go_simp; (try with_reducible rfl))
              simp only [Act.put, List.setIfInBounds_toArray, List.set_cons_zero, List.set_cons_succ]
              refine wpAnyN_take (i := 3) (v := ?_) rfl (by kernel_rfl) (by kernel_rfl) (by kernel_rfl) (by kernel_rfl) (fun _ _ _ h => h) (Or.inl ⟨by rfl, ?_⟩) (by assumption) ?_
              rotate_left
              · intro w hSw; ((try dsimp only at hSw); go_simp; (try with_reducible rfl))
              simp only [Act.put, List.setIfInBounds_toArray, List.set_cons_zero, List.set_cons_succ]
              refine wpAnyN_take (i := 4) (v := ?_) rfl (by kernel_rfl) (by kernel_rfl) (by kernel_rfl) (by kernel_rfl) (fun _ _ _ h => h) (Or.inl ⟨by rfl, ?_⟩) (by assumption) ?_
              rotate_left
              · intro w hSw; ((try dsimp only at hSw); go_simp; (try with_reducible rfl))
              simp only [Act.put, List.setIfInBounds_toArray, List.set_cons_zero, List.set_cons_succ]
              refine wpAnyN_take (i := 5) (v := ?_) rfl (by kernel_rfl) (by kernel_rfl) (by kernel_rfl) (by kernel_rfl) (fun _ _ _ h => h) (Or.inl ⟨by rfl, ?_⟩) (by assumption) ?_
              rotate_left
              · intro w hSw; ((try dsimp only at hSw); go_simp; (try with_reducible rfl))
              simp only [Act.put, List.setIfInBounds_toArray, List.set_cons_zero, List.set_cons_succ]
              refine wpAnyN_take (i := 6) (v := ?_) rfl (by kernel_rfl) (by kernel_rfl) (by kernel_rfl) (by kernel_rfl) (fun _ _ _ h => h) (Or.inl ⟨by rfl, ?_⟩) (by assumption) ?_
              rotate_left
              · intro w hSw; ((try dsimp only at hSw); go_simp; (try with_reducible rfl))
              simp only [Act.put, List.setIfInBounds_toArray, List.set_cons_zero, List.set_cons_succ]
              refine wpAnyN_take (i := 7) (v := ?_) rfl (by kernel_rfl) (by kernel_rfl) (by kernel_rfl) (by kernel_rfl) (fun _ _ _ h => h) (Or.inl ⟨by rfl, ?_⟩) (by assumption) ?_
              rotate_left
              · intro w hSw; ((try dsimp only at hSw); go_simp; (try with_reducible rfl))
              simp only [Act.put, List.setIfInBounds_toArray, List.set_cons_zero, List.set_cons_succ]
              refine wpAnyN_take (i := 8) (v := ?_) rfl (by kernel_rfl) (by kernel_rfl) (by kernel_rfl) (by kernel_rfl) (fun _ _ _ h => h) (Or.inl ⟨by rfl, ?_⟩) (by assumption) ?_
              rotate_left
              · intro w hSw; ((try dsimp only at hSw); go_simp; (try with_reducible rfl))
              simp only [Act.put, List.setIfInBounds_toArray, List.set_cons_zero, List.set_cons_succ]
              refine wpAnyN_take (i := 9) (v := ?_) rfl (by kernel_rfl) (by kernel_rfl) (by kernel_rfl) (by kernel_rfl) (fun _ _ _ h => h) (Or.inl ⟨by rfl, ?_⟩) (by assumption) ?_
              rotate_left
              · intro w hSw; ((try dsimp only at hSw); go_simp; (try with_reducible rfl))
              simp only [Act.put, List.setIfInBounds_toArray, List.set_cons_zero, List.set_cons_succ]
              refine wpAnyN_take (i := 10) (v := ?_) rfl (by kernel_rfl) (by kernel_rfl) (by kernel_rfl) (by kernel_rfl) (fun _ _ _ h => h) (Or.inl ⟨by rfl, ?_⟩) (by assumption) ?_
              rotate_left
              · intro w hSw; ((try dsimp only at hSw); go_simp; (try with_reducible rfl))
              simp only [Act.put, List.setIfInBounds_toArray, List.set_cons_zero, List.set_cons_succ]
              refine wpAnyN_take (i := 11) (v := .bool yb) rfl (by kernel_rfl) (by kernel_rfl) (by kernel_rfl) (by kernel_rfl) (fun _ _ _ h => h) (Or.inl ⟨by rfl, fun w hSw => by (try dsimp only at hSw); go_simp; first | exact hbtH.out | (rw [hbtH.out])⟩) (by assumption) ?_
              simp only [Act.put, List.setIfInBounds_toArray, List.set_cons_zero, List.set_cons_succ]
              refine wpAnyN_take (i := 12) (v := .bool zb) rfl (by kernel_rfl) (by kernel_rfl) (by kernel_rfl) (by kernel_rfl) (fun _ _ _ h => h) (Or.inl ⟨by rfl, fun w hSw => by (try dsimp only at hSw); go_simp; rw [hnewH.out]; cases xb <;> cases yb <;> rfl⟩) (by assumption) ?_
              simp only [Act.put, List.setIfInBounds_toArray, List.set_cons_zero, List.set_cons_succ]
              refine wpAnyN_take (i := 13) (v := ?_) rfl (by kernel_rfl) (by kernel_rfl) (by kernel_rfl) (by kernel_rfl) (fun _ _ _ h => h) (Or.inl ⟨by rfl, ?_⟩) (by assumption) ?_
              rotate_left
              · intro w hSw; ((try dsimp only at hSw); go_simp; (try with_reducible rfl))
              simp only [Act.put, List.setIfInBounds_toArray, List.set_cons_zero, List.set_cons_succ]
              refine wpAnyN_one (i := 14) rfl (by kernel_rfl) ?_
              go_wp2_with fail
              refine ⟨fun h => by simp at h, ?_⟩
              refine wpAnyN_done (by kernel_rfl) ?_ _
              clear hcA hfA hHeld hcb'
              go_wp2_with fail
              go_roundw
              case rel => exact ⟨j + 1, by omega, by go_num, hH.out.1, hH.out.2⟩
              case measure => simp [intOf]; omega
            · have hjm : j = 8 := by omega
              subst hjm
              rw [show ((8 : Nat) : Int) = 8 from rfl]
              have hA2 : wr.heap[A]? = some (.cells (bits64 (crcSteps (N ^^^ BitVec.ofNat 64 b.toNat) 0).getLsbD).toArray 204 (0, 0)) := by
                rw [hA, bits64_congr (g := (crcSteps (N ^^^ BitVec.ofNat 64 b.toNat) 0).getLsbD) (fun i hi => by
                  by_cases h : i < 8
                  · rw [if_pos h]; rfl
                  · rw [if_neg h]
                    show _ = (N ^^^ BitVec.ofNat 64 b.toNat).getLsbD i
                    rw [BitVec.getLsbD_xor, bytebit_high b i (by omega)]; simp)]
              clear hA
              obtain ⟨Z, hZ⟩ : ∃ Z, N ^^^ BitVec.ofNat 64 b.toNat = Z := ⟨_, rfl⟩
              have hZb : crcByte N b = crcSteps Z 8 := by rw [← hZ]; rfl
              rw [hZ] at hA2
              have hZbH := hidden hZb
              clear hZ hZb
              go_wp2_with fail
              go_loopw [7] (fun i wr => ∃ (j : Nat) (oj : Own), j ≤ 8 ∧ i = .int .i64 j ∧ wr.heap[A]? = some (.cells (bits64 (crcSteps Z j).getLsbD).toArray 204 (0, 0)) ∧ Step Nobody w o wr oj ∧ oj A = (0, 0)) (fun i _ => 8 - (intOf i).toNat)
              case atStart => exact ⟨0, oj, by omega, rfl, hA2, hst, hAo⟩
              case round =>
                clear hA2 hst hAo
                obtain ⟨j, oj, hj, rfl, hA, hst, hAo⟩ := hrel
                by_cases hlt2 : j < 8
                · have hld := hidden (load204 hA)
                  have hcl := rstep_any (crcSteps Z j) wr oj
                  obtain ⟨Y, hY⟩ : ∃ Y, crcSteps Z j = Y := ⟨_, rfl⟩
                  have hYs : crcStep Y = crcSteps Z (j + 1) := by rw [← hY]; rfl
                  rw [hY] at hcl hA hld
                  have hYsH := hidden hYs
                  have hclH := hidden hcl
                  have hAl := lt_of_block hA
                  clear hY hYs hcl
                  go_wp2_with ((with_reducible apply lit_load); exact hld.out; simp only [Act.put, List.setIfInBounds_toArray, List.set_cons_zero, List.set_cons_succ])
                  refine hclH.out.mono ?_; rintro e wc ⟨v, oc, rfl, hs, rfl⟩
                  have hA3 := (hs.block A hAl (fun h => h)).trans hA
                  have hAo3 := (hs.own A hAl).trans hAo
                  have hst := hst.trans hs
                  obtain ⟨hso, hsb⟩ := store204 (g := (crcStep Y).getLsbD) hA3
                  have hss := hst.setCells A 0 (bits64 (crcStep Y).getLsbD) (.inr (by omega))
                  rw [hYsH.out] at hso hsb hss ⊢
                  have hsoH := hidden hso
                  have hH := hidden (And.intro hsb hss)
                  clear hso hsb hss hst hs hA hA3 hclH hld
                  go_wp2_with ((with_reducible apply lit_store); exact hsoH.out; simp only [Act.put])
                  go_roundw
                  case rel => exact ⟨j + 1, oc, by omega, by go_num, hH.out.1, hH.out.2, hAo3⟩
                  case measure => simp [intOf]; omega
                · have hjm : j = 8 := by omega
                  subst hjm
                  rw [← hZbH.out, hrunH.out] at hA
                  go_wp2_with fail
                  go_roundw
                  case rel => exact ⟨k + 1, oj, by omega, by go_num, hA, hst, hAo⟩
                  case measure => simp [intOf]; omega
        · have hkm : k = m := by omega
          subst hkm
          rw [hallH.out] at hA
          obtain ⟨M, hM⟩ : ∃ M, crcSum l = M := ⟨_, rfl⟩
          have hMr : crcRun l = ~~~ M := by rw [← hM]; unfold crcSum; simp
          rw [hMr] at hA
          have hMH := hidden hM
          clear hM hMr
          go_wp2_with fail
          go_loopw [8, 9] (fun vv i wr => ∃ k : Nat, k ≤ 64 ∧ i = .int .i64 (63 - (k : Int)) ∧ vv = .int .u64 ((M >>> (64 - k)).toNat : Int) ∧ wr.heap[A]? = some (.cells (bits64 (~~~ M).getLsbD).toArray 204 (0, 0)) ∧ Step Nobody w o wr oj) (fun _ i _ => (intOf i + 1).toNat)
          case atStart => exact ⟨0, by omega, rfl, by rw [BitVec.toNat_ushiftRight, Nat.shiftRight_eq_div_pow, Nat.div_eq_of_lt M.isLt]; rfl, hA, hst⟩
          case round =>
            clear hA hst
            obtain ⟨k, hk, rfl, rfl, hA, hst⟩ := hrel
            by_cases hlt : k < 64
            · have hstep := shr_step M k hlt
              have hcA : wr.cell? ⟨A, 63 - k, none⟩ = some (.bool ((~~~ M).getLsbD (63 - k))) := by rw [cell_of_block hA, get_bits64 _ _ (by omega)]
              have hnot : (~~~ M).getLsbD (63 - k) = !M.getLsbD (63 - k) := by rw [BitVec.getLsbD_not]; simp; omega
              have hix : (63 - (k : Int)) = ((63 - k : Nat) : Int) := by omega
              have hbound := (M >>> (63 - k)).isLt
              obtain ⟨V', hV'⟩ : ∃ V', (M >>> (63 - k)).toNat = V' := ⟨_, rfl⟩
              obtain ⟨V, hV⟩ : ∃ V, (M >>> (64 - k)).toNat = V := ⟨_, rfl⟩
              rw [hV, hV'] at hstep
              rw [hV'] at hbound
              rw [hnot] at hcA
              rw [hV, hix]
              obtain ⟨q, hq⟩ : ∃ q, 63 - k = q := ⟨_, rfl⟩
              have hV'' : (M >>> (64 - (k + 1))).toNat = V' := by rw [show 64 - (k + 1) = 63 - k from by omega]; exact hV'
              rw [hq] at hcA hstep ⊢
              have hq63 : q ≤ 63 := by omega
              have hVH := hidden hV''
              clear hV hV' hnot hix hV''
              cases hbit : M.getLsbD q with
              | true =>
                rw [hbit] at hcA hstep
                have hVe : (2 * (V : Int) + 1) = (V' : Int) := by simp at hstep; omega
                have hV0 : (V : Int) ≤ 9223372036854775807 := by omega
                simp only [Bool.not_true] at hcA
                clear hbit hstep
                go_wp2_with fail
                go_roundw
                case rel => exact ⟨k + 1, by omega, by go_num, by rw [hVH.out], hA, hst⟩
                case measure => simp [intOf] <;> omega
              | false =>
                rw [hbit] at hcA hstep
                have hVe : (2 * (V : Int)) = (V' : Int) := by simp at hstep; omega
                have hV0 : (V : Int) ≤ 9223372036854775807 := by omega
                simp only [Bool.not_false] at hcA
                clear hbit hstep
                go_wp2_with fail
                go_roundw
                case rel => exact ⟨k + 1, by omega, by go_num, by rw [hVH.out], hA, hst⟩
                case measure => simp [intOf] <;> omega
            · have hkm : k = 64 := by omega
              subst hkm
              go_wp2_with fail
              go_ret
              exact ⟨_, oj, rfl, hst, by rw [hMH.out]; rfl⟩
end Go.Proofs.YtfgggkheadfiaaaR
/- Contracts of the document's answer of layer 8: Leaf, Says. -/
namespace Go.Proofs.YtfgggkheadfiaaaR
open Go Go.RowKit
attribute [local go_sem ↓] Go.wp_at_zero Go.wp_at_succ

theorem be_revT (S : BitVec 64) (i : Nat) (hi : i < 8) : (be 8 S).reverse.take (i + 1) = (be 8 S).reverse.take i ++ [beB S i] := by
  have : (be 8 S).reverse[i]? = some (beB S i) := by
    rw [List.getElem?_reverse (by rw [length_be]; exact hi), length_be]
    simp [be, show 8 - 1 - i < 8 by omega, show 8 - 1 - (8 - 1 - i) = i by omega]
  rw [List.take_add_one, this]; rfl
theorem run_len_str (w : World) (l : List UInt8) (_hl : l.length ≤ 1000000) : (Builtin.len_ #[9] 3 #[str l]).run Try.prog w = .ok (.int .i64 (l.length : Int)) w := by
  have hs : (⟨l.toArray⟩ : ByteArray).size = l.length := by simp [ByteArray.size]
  simp [Builtin.len_, str, hs, run_underlying Try.underlying9, goInt]
theorem bytesRow_take (l : List UInt8) (c : Nat) : (bytesRow ⟨l.toArray⟩ c).toList.take l.length = bvs l := by
  unfold bytesRow
  simp only [Array.toList_append, Array.toList_map]
  rw [List.take_left' (by simp)]; rfl
theorem conv_str_bytes (w : World) (o : Own) (l : List UInt8) (hl : l.length ≤ 1000000) : ∃ c w' o', (convert 9 28 (str l)).run Try.prog w = .ok (.slice (some ⟨w.heap.size, 0, none⟩) l.length c) w' ∧ Step Nobody w o w' o' ∧ Bytes w' o' (.slice (some ⟨w.heap.size, 0, none⟩) l.length c) l := by
  have h := run_bytes_of_string (P := Try.prog) w 9 28 5 ⟨l.toArray⟩ Try.underlying9 Try.underlying28 Try.underlying5
  have hs : (⟨l.toArray⟩ : ByteArray).size = l.length := by simp [ByteArray.size]
  rw [hs] at h
  refine ⟨_, _, _, h, ((Step.refl Nobody w o).drew).alloc _ (0, 0), .inr ⟨w.heap.size, 0, _, rfl, grownCap_ge _ _ _ _, grownCap_le_maxLen _ _ _ _ (by simp only [maxLen]; omega), by rw [show w.drew.heap.size = w.heap.size from rfl, tagAt_same], by simp, ?_⟩⟩
  have hh := heap_alloc_new w.drew (.cells (bytesRow ⟨l.toArray⟩ (grownCap w l.length 0 5)) 5 ((bytesRow ⟨l.toArray⟩ (grownCap w l.length 0 5)).size, (bytesRow ⟨l.toArray⟩ (grownCap w l.length 0 5)).size + 1))
  have hr := range_of_block (cs := (bytesRow ⟨l.toArray⟩ (grownCap w l.length 0 5)).toList) (by rw [Array.toArray_toList]; exact hh) 0 l.length
  rw [List.drop_zero, bytesRow_take] at hr
  exact hr
set_option maxRecDepth 100000 in
set_option maxHeartbeats 3200000 in
theorem rleaf_any (x : LeafM) (hx : x.bytes.length ≤ 480) (ha : x.at' ≤ 65535) (hof : x.of' ≤ 65535) (w : World) (o : Own) :
    Calls Try.prog 92 #[.int .u64 (x.stamp.toNat : Int), .int .i64 (x.at' : Int), .int .i64 (x.of' : Int), str x.bytes] w (Ret Nobody w o fun v _ _ => v = str x.page) := by
  obtain ⟨S, at', of', bs⟩ := x
  simp only at hx ha hof ⊢
  have hsz : (⟨bs.toArray⟩ : ByteArray).size = bs.length := by simp [ByteArray.size]
  have hai : (at' : Int) ≤ 65535 := by omega
  have hoi : (of' : Int) ≤ 65535 := by omega
  obtain ⟨n, hn⟩ : ∃ n, bs.length = n := ⟨_, rfl⟩
  rw [hn] at hsz hx
  have hni : (n : Int) ≤ 480 := by omega
  have hpage : LeafM.page ⟨S, at', of', bs⟩ = (be 8 S ++ be 2 (BitVec.ofNat 64 at') ++ be 2 (BitVec.ofNat 64 of') ++ be 4 (BitVec.ofNat 64 n) ++ bs ++ List.replicate (480 - n) 0) ++
      (be 8 (crcSum (be 8 S ++ be 2 (BitVec.ofNat 64 at') ++ be 2 (BitVec.ofNat 64 of') ++ be 4 (BitVec.ofNat 64 n) ++ bs ++ List.replicate (480 - n) 0))).reverse ++ be 8 S := by rw [← hn]; rfl
  have h8 := fun (W : World) (O : Own) => rnumber_any S 8 (by omega) W O
  have hA := fun (W : World) (O : Own) => rnumber_nat at' 2 (by omega) (by omega) W O
  have hO := fun (W : World) (O : Own) => rnumber_nat of' 2 (by omega) (by omega) W O
  have hN := fun (W : World) (O : Own) => rnumber_nat n 4 (by omega) (by omega) W O
  have hlen := fun W => run_len_str W bs (by rw [hn]; omega)
  rw [hn] at hlen
  have l8 := length_be 8 S
  have lA := length_be 2 (BitVec.ofNat 64 at')
  have lO := length_be 2 (BitVec.ofNat 64 of')
  have lN := length_be 4 (BitVec.ofNat 64 n)
  generalize be 8 S = E8 at *
  generalize be 2 (BitVec.ofNat 64 at') = EA at *
  generalize be 2 (BitVec.ofNat 64 of') = EO at *
  generalize be 4 (BitVec.ofNat 64 n) = EN at *
  obtain ⟨P1, hP1⟩ : ∃ P1, E8 ++ EA = P1 := ⟨_, rfl⟩
  have q1 := fun W => run_str_add W E8 EA (by omega)
  have m1 : P1.length = 10 := by rw [← hP1, List.length_append, l8, lA]
  obtain ⟨P2, hP2⟩ : ∃ P2, P1 ++ EO = P2 := ⟨_, rfl⟩
  have q2 := fun W => run_str_add W P1 EO (by omega)
  have m2 : P2.length = 12 := by rw [← hP2, List.length_append, m1, lO]
  obtain ⟨P3, hP3⟩ : ∃ P3, P2 ++ EN = P3 := ⟨_, rfl⟩
  have q3 := fun W => run_str_add W P2 EN (by omega)
  have m3 : P3.length = 16 := by rw [← hP3, List.length_append, m2, lN]
  obtain ⟨P, hP⟩ : ∃ P, P3 ++ bs = P := ⟨_, rfl⟩
  have q4 := fun W => run_str_add W P3 bs (by omega)
  have m4 : P.length = 16 + n := by rw [← hP, List.length_append, m3, hn]
  rw [hP1, hP2, hP3, hP] at hpage
  rw [hP1] at q1
  rw [hP2] at q2
  rw [hP3] at q3
  rw [hP] at q4
  obtain ⟨z, hz⟩ : ∃ z, 480 - n = z := ⟨_, rfl⟩
  obtain ⟨Q, hQ⟩ : ∃ Q, P ++ List.replicate z 0 = Q := ⟨_, rfl⟩
  have q5 := fun W => run_str_add W P (List.replicate z 0) (by rw [List.length_replicate]; omega)
  have m5 : Q.length = 496 := by rw [← hQ, List.length_append, List.length_replicate, m4]; omega
  rw [hQ] at q5
  rw [hz, hQ] at hpage
  obtain ⟨pl, hpl⟩ : ∃ pl, P.length = pl := ⟨_, rfl⟩
  have hlenP := fun W => run_len_str W P (by omega)
  rw [hpl] at hlenP m4
  have hzi : (z : Int) = 496 - (pl : Int) := by omega
  have hpli : (pl : Int) ≤ 496 := by omega
  have hpl0 : (16 : Int) ≤ (pl : Int) := by omega
  have hz480 : z ≤ 480 := by omega
  have h8H := hidden h8
  have hAH := hidden hA
  have hOH := hidden hO
  have hNH := hidden hN
  have q1H := hidden q1
  have q2H := hidden q2
  have q3H := hidden q3
  have q4H := hidden q4
  have q5H := hidden q5
  have m5H := hidden m5
  have hpageH := hidden hpage
  have hlenH := hidden hlen
  have hlenPH := hidden hlenP
  have l8H := hidden l8
  clear h8 hA hO hN q1 q2 q3 q4 q5 m1 m2 m3 m4 m5 hP1 hP2 hP3 hP hQ hz lA lO lN l8 hpage hlen hlenP hn hpl hsz
  go_enter Try.func92, Try.ntmps92
  go_wp2_with fail
  refine (h8H.out _ o).mono ?_; rintro e w1 ⟨v1, o1, rfl, hst, rfl⟩
  go_wp2_with fail
  refine (hAH.out _ o1).mono ?_; rintro e w2 ⟨v2, o2, rfl, hs, rfl⟩
  have hst := hst.trans hs
  clear hs
  go_wp2_with ((with_reducible apply lit_add); exact q1H.out _; simp only [Act.put, List.setIfInBounds_toArray, List.set_cons_zero, List.set_cons_succ])
  refine (hOH.out _ o2).mono ?_; rintro e w3 ⟨v3, o3, rfl, hs, rfl⟩
  have hst := hst.trans hs
  clear hs
  have hln := hlenH.out w3
  go_wp2_with ((with_reducible apply lit_add); exact q2H.out _; simp only [Act.put, List.setIfInBounds_toArray, List.set_cons_zero, List.set_cons_succ])
  refine (hNH.out _ o3).mono ?_; rintro e w4 ⟨v4, o4, rfl, hs, rfl⟩
  have hst := hst.trans hs
  have hlnP := hlenPH.out w4
  have hmk := make_bytes w4 z (by omega)
  have hcv := conv_string (bytes_new w4 o4 (List.replicate z 0) (by simp; omega))
  rw [List.length_replicate] at hcv
  have hst := hst.alloc (.cells (bvs (List.replicate z 0)).toArray 5) (0, 0)
  generalize w4.alloc (.cells (bvs (List.replicate z 0)).toArray 5) = w5 at *
  generalize tagAt o4 w4.heap.size (0, 0) = o5 at *
  rw [hzi] at hmk
  have hmkH := hidden hmk
  have hcvH := hidden hcv
  clear hmk hcv hzi hs hln
  have hcb := conv_str_bytes w5 o5 Q (by rw [m5H.out]; omega)
  obtain ⟨c6, w6, o6, hcb1, hcb2, hcb3⟩ := hcb
  rw [m5H.out] at hcb1
  have hcbH := hidden hcb1
  have hsum := rsum_any hcb3 (by rw [m5H.out]; omega)
  rw [m5H.out] at hsum
  have hst := hst.trans hcb2
  clear hcb1 hcb2 hcb3
  go_wp2_with (first
    | ((with_reducible apply lit_makeSlice); exact hmkH.out; simp only [Act.put, List.setIfInBounds_toArray, List.set_cons_zero, List.set_cons_succ])
    | ((with_reducible apply lit_convert); (first | exact hcvH.out | exact hcbH.out); simp only [Act.put, List.setIfInBounds_toArray, List.set_cons_zero, List.set_cons_succ])
    | ((with_reducible apply lit_add); (first | exact q3H.out _ | exact q4H.out _ | exact q5H.out _); simp only [Act.put, List.setIfInBounds_toArray, List.set_cons_zero, List.set_cons_succ]))
  refine hsum.mono ?_; rintro e w7 ⟨v7, o7, rfl, hs, rfl⟩
  have hst := hst.trans hs
  clear hs hsum hlnP
  obtain ⟨C, hC⟩ : ∃ C, crcSum Q = C := ⟨_, rfl⟩
  have hpage := hpageH.out
  rw [hC] at hpage ⊢
  have hpH := hidden hpage
  clear hpage hpageH hmkH hcvH hcbH
  go_wp2_with fail
  go_loopw [9, 11] (fun sv i wr => ∃ (k : Nat) (oj : Own), k ≤ 8 ∧ i = .int .i64 k ∧ sv = str (Q ++ (be 8 C).reverse.take k) ∧ Step Nobody w o wr oj) (fun _ i _ => 8 - (intOf i).toNat)
  case atStart => exact ⟨0, o7, by omega, rfl, by simp, hst⟩
  case round =>
    clear hst
    obtain ⟨k, oj, hk, rfl, rfl, hst⟩ := hrel
    by_cases hlt : k < 8
    · have hbt := beB_int2 C k
      have hrev := be_revT C k hlt
      obtain ⟨b, hbE⟩ : ∃ b, beB C k = b := ⟨_, rfl⟩
      rw [hbE] at hbt hrev
      have had := run_str_add (wr.alloc (.cells #[.int .u8 (b.toNat : Int)] 5)) (Q ++ (be 8 C).reverse.take k) [b] (by rw [List.length_append, m5H.out]; simp only [List.length_take, List.length_singleton]; omega)
      rw [List.append_assoc, ← hrev] at had
      have hcv := conv_string (bytes_new wr oj [b] (by simp))
      rw [bv_of] at hcv
      have hcv' : (convert 28 9 (.slice (some ⟨wr.heap.size, 0, none⟩) 1 1)).run Try.prog (wr.alloc (.cells #[.int .u8 (b.toNat : Int)] 5)) = .ok (str [b]) (wr.alloc (.cells #[.int .u8 (b.toNat : Int)] 5)) := hcv
      have hst2 := hst.alloc (.cells #[.int .u8 (b.toNat : Int)] 5) (0, 0)
      obtain ⟨e8, he8⟩ : ∃ e8 : Nat, 8 * k = e8 := ⟨_, rfl⟩
      have he8i : 8 * (k : Int) = (e8 : Int) := by omega
      have he8b : (e8 : Int) ≤ 56 := by omega
      rw [he8] at hbt
      have hadH := hidden had
      have hcvH := hidden hcv'
      obtain ⟨R0, hR0⟩ : ∃ R0, Q ++ (be 8 C).reverse.take k = R0 := ⟨_, rfl⟩
      obtain ⟨R1, hR1⟩ : ∃ R1, Q ++ (be 8 C).reverse.take (k + 1) = R1 := ⟨_, rfl⟩
      rw [hR0, hR1] at hadH
      rw [hR0]
      have hR1H := hidden hR1
      have hC0 : (0 : Int) ≤ (C.toNat : Int) := by omega
      have hC1 : (C.toNat : Int) ≤ 18446744073709551615 := by have := C.isLt; omega
      clear hcv hcv' had hrev hbE he8 hR0 hR1 hst
      go_wp2_with (first
        | ((with_reducible apply lit_convert); exact hcvH.out; simp only [Act.put, List.setIfInBounds_toArray, List.set_cons_zero, List.set_cons_succ])
        | ((with_reducible apply lit_add); exact hadH.out; simp only [Act.put, List.setIfInBounds_toArray, List.set_cons_zero, List.set_cons_succ]))
      go_roundw
      case rel => exact ⟨k + 1, _, by omega, by go_num, by rw [hR1H.out], hst2⟩
      case measure => simp [intOf]; omega
    · have hkm : k = 8 := by omega
      subst hkm
      rw [List.take_of_length_le (by rw [List.length_reverse, length_be]; omega)]
      obtain ⟨R, hR⟩ : ∃ R, Q ++ (be 8 C).reverse = R := ⟨_, rfl⟩
      have hRl : R.length = 504 := by rw [← hR, List.length_append, m5H.out, List.length_reverse, length_be]
      have hp := hpH.out
      rw [hR] at hp ⊢
      have q6 := fun W => run_str_add W R E8 (by rw [hRl, l8H.out]; omega)
      have q6H := hidden q6
      have hpH2 := hidden hp
      clear q6 hp hRl hR
      go_wp2_with fail
      refine (h8H.out _ oj).mono ?_; rintro e w8 ⟨v8, o8, rfl, hs, rfl⟩
      have hst := hst.trans hs
      clear hs
      go_wp2_with ((with_reducible apply lit_add); exact q6H.out _; simp only [Act.put, List.setIfInBounds_toArray, List.set_cons_zero, List.set_cons_succ])
      go_ret
      exact ⟨_, o8, rfl, hst, by rw [hpH2.out]; rfl⟩
end Go.Proofs.YtfgggkheadfiaaaR
/- Contract of the document's answer of layer 8: Says. -/
namespace Go.Proofs.YtfgggkheadfiaaaR
open Go Go.RowKit
attribute [local go_sem ↓] Go.wp_at_zero Go.wp_at_succ

def saysV (x : LeafM × Bool) : Value := .tuple #[.int .u64 (x.1.stamp.toNat : Int), .int .i64 (x.1.at' : Int), .int .i64 (x.1.of' : Int), str x.1.bytes, .bool x.2]
theorem run_str_part (w : World) (l : List UInt8) (lo hi : Nat) (h1 : lo ≤ hi) (h2 : hi ≤ l.length) : (Instr.sliceAt 9 (str l) (some (.int .i64 (lo : Int))) (some (.int .i64 (hi : Int))) none).run Try.prog w = .ok (str ((l.drop lo).take (hi - lo))) w := by
  have hx : (⟨l.toArray⟩ : ByteArray).extract lo hi = ⟨((l.drop lo).take (hi - lo)).toArray⟩ := by
    apply ByteArray.ext
    simp only [ByteArray.data_extract, List.extract_toArray, List.extract_eq_take_drop]
  have hs : (⟨l.toArray⟩ : ByteArray).size = l.length := by simp [ByteArray.size]
  have hb : (Instr.sliceBound (.int .i64 (hi : Int)) l.length .sliceAlen).run Try.prog w = .ok hi w := by
    rw [run_sliceBound (k := .i64) (i := (hi : Int)) (h0 := by omega) (h1 := by omega)]; simp
  have hb2 : (Instr.sliceBound (.int .i64 (lo : Int)) hi .sliceB).run Try.prog w = .ok lo w := by
    rw [run_sliceBound (k := .i64) (i := (lo : Int)) (h0 := by omega) (h1 := by omega)]; simp
  simp only [Instr.sliceAt, Instr.slice, str, Sem.run_bind, run_underlying Try.underlying9, Result.andThen_ok, Instr.sliceBounds, Option.isSome, hs]
  simp [hb, hb2, hx]
theorem results_tmp5 {P : Program} {fn : Func} {a b c d e : Tmp} (h : fn.results = #[.tmp a, .tmp b, .tmp c, .tmp d, .tmp e]) (tmps : Array Value) (w : World) :
    (results fn tmps).run P w = .ok (.tuple #[tmps.getD a undef, tmps.getD b undef, tmps.getD c undef, tmps.getD d undef, tmps.getD e undef]) w := by
  simp [results, h]
theorem len10 {α : Type} {l : List α} (h : l.length = 10) : ∃ a b c d e f g i j k, l = [a, b, c, d, e, f, g, i, j, k] := by
  match l, h with
  | [a, b, c, d, e, f, g, i, j, k], _ => exact ⟨a, b, c, d, e, f, g, i, j, k, rfl⟩
theorem num_lt (l : List UInt8) (n : Nat) (hl : l.length = n) (hn : n ≤ 8) : (num l).toNat < 256 ^ n := by
  rw [num_small (by omega)]; have := numN_lt l; rw [hl] at this; exact this
set_option maxRecDepth 100000 in
set_option maxHeartbeats 3200000 in
theorem rsays_any (p : List UInt8) (hp : p.length = 512) (w : World) (o : Own) :
    Calls Try.prog 121 #[str p] w (Ret Nobody w o fun v _ _ => v = saysV (saidL p)) := by
  have ha1 : (num ((p.drop 8).take 2)).toNat < 65536 := num_lt _ 2 (by simp; omega) (by omega)
  have ha2 : (num ((p.drop 10).take 2)).toNat < 65536 := num_lt _ 2 (by simp; omega) (by omega)
  have ha3 : (num ((p.drop 12).take 4)).toNat < 4294967296 := num_lt _ 4 (by simp; omega) (by omega)
  have hdr := (Step.refl Nobody w o).drew
  go_enter Try.func121, Try.ntmps121
  go_wp2_with fail
  refine wp_region_need (fun _ => True) (fun _ => true) (by kernel_rfl) trivial (fun hHeld => ?_)
  refine wpAnyN_take (i := 0) (v := ?_) rfl (by kernel_rfl) (by kernel_rfl) (by kernel_rfl) (by kernel_rfl) (fun _ _ _ h => h) (Or.inl ⟨by rfl, ?_⟩) (by assumption) ?_
  rotate_left
  · intro w hSw; ((try dsimp only at hSw); go_simp; (try with_reducible rfl))
  simp only [Act.put, List.setIfInBounds_toArray, List.set_cons_zero, List.set_cons_succ]
  refine wpAnyN_take (i := 1) (v := str (p.take 8)) rfl (by kernel_rfl) (by kernel_rfl) (by kernel_rfl) (by kernel_rfl) (fun _ _ _ h => h) (yields_run rfl (fun w hSw => ?_)) (by assumption) ?_
  · refine exec_slice 9 (.tmp 12) none (some (.const (.int .i64 8))) none rfl ?_
    exact run_str_take w p 8 (by omega)
  simp only [Act.put, List.setIfInBounds_toArray, List.set_cons_zero, List.set_cons_succ]
  refine wpAnyN_take (i := 3) (v := ?_) rfl (by kernel_rfl) (by kernel_rfl) (by kernel_rfl) (by kernel_rfl) (fun _ _ _ h => h) (Or.inl ⟨by rfl, ?_⟩) (by assumption) ?_
  rotate_left
  · intro w hSw; ((try dsimp only at hSw); go_simp; (try with_reducible rfl))
  simp only [Act.put, List.setIfInBounds_toArray, List.set_cons_zero, List.set_cons_succ]
  refine wpAnyN_take (i := 4) (v := str ((p.drop 8).take 2)) rfl (by kernel_rfl) (by kernel_rfl) (by kernel_rfl) (by kernel_rfl) (fun _ _ _ h => h) (yields_run rfl (fun w hSw => ?_)) (by assumption) ?_
  · refine exec_slice 9 (.tmp 15) (some (.const (.int .i64 8))) (some (.const (.int .i64 10))) none rfl ?_
    exact run_str_part w p 8 10 (by omega) (by omega)
  simp only [Act.put, List.setIfInBounds_toArray, List.set_cons_zero, List.set_cons_succ]
  refine wpAnyN_take (i := 7) (v := ?_) rfl (by kernel_rfl) (by kernel_rfl) (by kernel_rfl) (by kernel_rfl) (fun _ _ _ h => h) (Or.inl ⟨by rfl, ?_⟩) (by assumption) ?_
  rotate_left
  · intro w hSw; ((try dsimp only at hSw); go_simp; (try with_reducible rfl))
  simp only [Act.put, List.setIfInBounds_toArray, List.set_cons_zero, List.set_cons_succ]
  refine wpAnyN_take (i := 8) (v := str ((p.drop 10).take 2)) rfl (by kernel_rfl) (by kernel_rfl) (by kernel_rfl) (by kernel_rfl) (fun _ _ _ h => h) (yields_run rfl (fun w hSw => ?_)) (by assumption) ?_
  · refine exec_slice 9 (.tmp 19) (some (.const (.int .i64 10))) (some (.const (.int .i64 12))) none rfl ?_
    exact run_str_part w p 10 12 (by omega) (by omega)
  simp only [Act.put, List.setIfInBounds_toArray, List.set_cons_zero, List.set_cons_succ]
  refine wpAnyN_take (i := 11) (v := ?_) rfl (by kernel_rfl) (by kernel_rfl) (by kernel_rfl) (by kernel_rfl) (fun _ _ _ h => h) (Or.inl ⟨by rfl, ?_⟩) (by assumption) ?_
  rotate_left
  · intro w hSw; ((try dsimp only at hSw); go_simp; (try with_reducible rfl))
  simp only [Act.put, List.setIfInBounds_toArray, List.set_cons_zero, List.set_cons_succ]
  refine wpAnyN_take (i := 12) (v := str ((p.drop 12).take 4)) rfl (by kernel_rfl) (by kernel_rfl) (by kernel_rfl) (by kernel_rfl) (fun _ _ _ h => h) (yields_run rfl (fun w hSw => ?_)) (by assumption) ?_
  · refine exec_slice 9 (.tmp 23) (some (.const (.int .i64 12))) (some (.const (.int .i64 16))) none rfl ?_
    exact run_str_part w p 12 16 (by omega) (by omega)
  simp only [Act.put, List.setIfInBounds_toArray, List.set_cons_zero, List.set_cons_succ]
  refine wpAnyN_midlC (fuel := 0) [2, 5, 6, 9, 10, 13, 14, 15, 16, 17] [14, 17, 18, 21, 22, 25, 7, 8, 9, 10] [_, _, _, _, _, _, _, _, _, _] Nobody (fun _ w' o' => Step Nobody w.drew o w' o')
    (fun k u _ _ => u = [Value.int .u64 ((num (p.take 8)).toNat : Int), .int .u64 ((num ((p.drop 8).take 2)).toNat : Int), .int .i64 ((num ((p.drop 8).take 2)).toNat : Int), .int .u64 ((num ((p.drop 10).take 2)).toNat : Int), .int .i64 ((num ((p.drop 10).take 2)).toNat : Int),
      .int .u64 ((num ((p.drop 12).take 4)).toNat : Int), .int .u64 ((num (p.take 8)).toNat : Int), .int .i64 ((num ((p.drop 8).take 2)).toNat : Int), .int .i64 ((num ((p.drop 10).take 2)).toNat : Int), .int .u64 ((num ((p.drop 12).take 4)).toNat : Int)].getD k undef) rfl (by kernel_rfl)
    (fun k u w o w' o' h _ => h) [undef, undef, undef, undef, undef, undef, undef, undef, undef, undef] rfl (by simp only [Act.puts, Act.put, List.setIfInBounds_toArray, List.set_cons_zero, List.set_cons_succ]) (Step.refl _ _ _) ⟨?_, ?_, ?_, ?_, ?_, ?_, ?_, ?_, ?_, ?_, trivial⟩ ?_
  · intro sb us w2 o2 hsl hul hsk hdep hJ hR
    obtain ⟨u0, u1, u2, u3, u4, u5, u6, u7, u8, u9, rfl⟩ := len10 hul
    simp only [Act.puts, Act.put, List.setIfInBounds_toArray, List.set_cons_zero, List.set_cons_succ]
    go_wp2_with fail
    refine (rvalue_any (p.take 8) (by simp; omega) w2).mono ?_; rintro e w3 ⟨rfl, rfl⟩
    go_wp2_with fail
    exact ⟨_, o2, rfl, Step.refl _ _ _, hJ, rfl, fun _ => trivial⟩
  · intro sb us w2 o2 hsl hul hsk hdep hJ hR
    obtain ⟨u0, u1, u2, u3, u4, u5, u6, u7, u8, u9, rfl⟩ := len10 hul
    simp only [Act.puts, Act.put, List.setIfInBounds_toArray, List.set_cons_zero, List.set_cons_succ]
    go_wp2_with fail
    refine (rvalue_any ((p.drop 8).take 2) (by simp; omega) w2).mono ?_; rintro e w3 ⟨rfl, rfl⟩
    go_wp2_with fail
    exact ⟨_, o2, rfl, Step.refl _ _ _, hJ, rfl, fun _ => trivial⟩
  · intro sb us w2 o2 hsl hul hsk hdep hJ hR
    obtain ⟨u0, u1, u2, u3, u4, u5, u6, u7, u8, u9, rfl⟩ := len10 hul
    simp only [Act.puts, Act.put, List.setIfInBounds_toArray, List.set_cons_zero, List.set_cons_succ]
    have hu : u1 = .int .u64 _ := hR 1 (hdep 1 5 rfl (by kernel_rfl))
    subst hu
    go_wp2_with fail
    exact ⟨_, o2, rfl, Step.refl _ _ _, hJ, rfl, fun _ => trivial⟩
  · intro sb us w2 o2 hsl hul hsk hdep hJ hR
    obtain ⟨u0, u1, u2, u3, u4, u5, u6, u7, u8, u9, rfl⟩ := len10 hul
    simp only [Act.puts, Act.put, List.setIfInBounds_toArray, List.set_cons_zero, List.set_cons_succ]
    go_wp2_with fail
    refine (rvalue_any ((p.drop 10).take 2) (by simp; omega) w2).mono ?_; rintro e w3 ⟨rfl, rfl⟩
    go_wp2_with fail
    exact ⟨_, o2, rfl, Step.refl _ _ _, hJ, rfl, fun _ => trivial⟩
  · intro sb us w2 o2 hsl hul hsk hdep hJ hR
    obtain ⟨u0, u1, u2, u3, u4, u5, u6, u7, u8, u9, rfl⟩ := len10 hul
    simp only [Act.puts, Act.put, List.setIfInBounds_toArray, List.set_cons_zero, List.set_cons_succ]
    have hu : u3 = .int .u64 _ := hR 3 (hdep 3 9 rfl (by kernel_rfl))
    subst hu
    go_wp2_with fail
    exact ⟨_, o2, rfl, Step.refl _ _ _, hJ, rfl, fun _ => trivial⟩
  · intro sb us w2 o2 hsl hul hsk hdep hJ hR
    obtain ⟨u0, u1, u2, u3, u4, u5, u6, u7, u8, u9, rfl⟩ := len10 hul
    simp only [Act.puts, Act.put, List.setIfInBounds_toArray, List.set_cons_zero, List.set_cons_succ]
    go_wp2_with fail
    refine (rvalue_any ((p.drop 12).take 4) (by simp; omega) w2).mono ?_; rintro e w3 ⟨rfl, rfl⟩
    go_wp2_with fail
    exact ⟨_, o2, rfl, Step.refl _ _ _, hJ, rfl, fun _ => trivial⟩
  · intro sb us w2 o2 hsl hul hsk hdep hJ hR
    obtain ⟨u0, u1, u2, u3, u4, u5, u6, u7, u8, u9, rfl⟩ := len10 hul
    simp only [Act.puts, Act.put, List.setIfInBounds_toArray, List.set_cons_zero, List.set_cons_succ]
    have hu : u0 = .int .u64 _ := hR 0 (hdep 0 2 rfl (by kernel_rfl))
    subst hu
    go_wp2_with fail
    exact ⟨_, o2, rfl, Step.refl _ _ _, hJ, rfl, fun _ => trivial⟩
  · intro sb us w2 o2 hsl hul hsk hdep hJ hR
    obtain ⟨u0, u1, u2, u3, u4, u5, u6, u7, u8, u9, rfl⟩ := len10 hul
    simp only [Act.puts, Act.put, List.setIfInBounds_toArray, List.set_cons_zero, List.set_cons_succ]
    have hu : u2 = .int .i64 _ := hR 2 (hdep 2 6 rfl (by kernel_rfl))
    subst hu
    go_wp2_with fail
    exact ⟨_, o2, rfl, Step.refl _ _ _, hJ, rfl, fun _ => trivial⟩
  · intro sb us w2 o2 hsl hul hsk hdep hJ hR
    obtain ⟨u0, u1, u2, u3, u4, u5, u6, u7, u8, u9, rfl⟩ := len10 hul
    simp only [Act.puts, Act.put, List.setIfInBounds_toArray, List.set_cons_zero, List.set_cons_succ]
    have hu : u4 = .int .i64 _ := hR 4 (hdep 4 10 rfl (by kernel_rfl))
    subst hu
    go_wp2_with fail
    exact ⟨_, o2, rfl, Step.refl _ _ _, hJ, rfl, fun _ => trivial⟩
  · intro sb us w2 o2 hsl hul hsk hdep hJ hR
    obtain ⟨u0, u1, u2, u3, u4, u5, u6, u7, u8, u9, rfl⟩ := len10 hul
    simp only [Act.puts, Act.put, List.setIfInBounds_toArray, List.set_cons_zero, List.set_cons_succ]
    have hu : u5 = .int .u64 _ := hR 5 (hdep 5 13 rfl (by kernel_rfl))
    subst hu
    go_wp2_with fail
    exact ⟨_, o2, rfl, Step.refl _ _ _, hJ, rfl, fun _ => trivial⟩
  intro us w2 o2 hul hJ hR
  obtain ⟨u0, u1, u2, u3, u4, u5, u6, u7, u8, u9, rfl⟩ := len10 hul
  simp only [Act.puts, Act.put, List.setIfInBounds_toArray, List.set_cons_zero, List.set_cons_succ]
  have r6 : u6 = .int .u64 ((num (p.take 8)).toNat : Int) := hR 6 (by simp)
  have r7 : u7 = .int .i64 ((num ((p.drop 8).take 2)).toNat : Int) := hR 7 (by simp)
  have r8 : u8 = .int .i64 ((num ((p.drop 10).take 2)).toNat : Int) := hR 8 (by simp)
  have r9 : u9 = .int .u64 ((num ((p.drop 12).take 4)).toNat : Int) := hR 9 (by simp)
  subst r6 r7 r8 r9
  have hst := hdr.trans hJ
  clear hJ hR hul hdr
  refine wpAnyN_done (by kernel_rfl) ?_ _
  obtain ⟨x, hx⟩ : ∃ x, leafOf p = x := ⟨_, rfl⟩
  have e1 : num (p.take 8) = x.stamp := by rw [← hx]; rfl
  have e2 : (num ((p.drop 8).take 2)).toNat = x.at' := by rw [← hx]; rfl
  have e3 : (num ((p.drop 10).take 2)).toNat = x.of' := by rw [← hx]; rfl
  obtain ⟨m, hm⟩ : ∃ m, (num ((p.drop 12).take 4)).toNat = m := ⟨_, rfl⟩
  have e4 : (p.drop 16).take m = x.bytes := by rw [← hx, ← hm]; rfl
  have hsaid : saidL p = if x.stamp = 0#64 ∨ 480 < m then (noLeaf, false) else (x, x.page == p) := by rw [← hx, ← hm]; rfl
  rw [e2] at ha1
  rw [e3] at ha2
  rw [hm] at ha3
  rw [e1, e2, e3, hm]
  clear hx e1 e2 e3 hm
  by_cases hs0 : x.stamp = 0#64
  · have hz : (x.stamp.toNat : Int) = 0 := by rw [hs0]; rfl
    rw [if_pos (.inl hs0)] at hsaid
    have hsaidH := hidden hsaid
    clear hsaid hs0 e4
    go_wp2_with fail
    (try simp only [Exit.inBlock, Exit.then]); refine bodyPost_ret (results_tmp5 rfl _ _) rfl ?_
    exact ⟨_, o2, rfl, hst, by rw [hsaidH.out]; rfl⟩
  · have hz' : ¬ (x.stamp.toNat : Int) = 0 := by
      intro h; apply hs0; apply BitVec.eq_of_toNat_eq; simp; omega
    have hz : ((x.stamp.toNat : Int) == 0) = false := by simpa using hz'
    clear hz'
    by_cases hm480 : 480 < m
    · have hmi : (480 : Int) < (m : Int) := by omega
      rw [if_pos (.inr hm480)] at hsaid
      have hsaidH := hidden hsaid
      clear hsaid hs0 e4 hm480
      go_wp2_with fail
      (try simp only [Exit.inBlock, Exit.then]); refine bodyPost_ret (results_tmp5 rfl _ _) rfl ?_
      exact ⟨_, o2, rfl, hst, by rw [hsaidH.out]; rfl⟩
    · have hmi : (m : Int) ≤ 480 := by omega
      have hmi2 : ¬ (480 : Int) < (m : Int) := by omega
      rw [if_neg (by rintro (h | h); exact hs0 h; exact hm480 h)] at hsaid
      have hsl := fun W => run_str_part W p 16 (16 + m) (by omega) (by omega)
      rw [Nat.add_sub_cancel_left, e4] at hsl
      have hxb : x.bytes.length ≤ 480 := by rw [← e4]; simp; omega
      have hcl := rleaf_any x hxb (by omega) (by omega) w2 o2
      have hslH := hidden hsl
      have hclH := hidden hcl
      have hsaidH := hidden hsaid
      have hcast : ((16 + m : Nat) : Int) = 16 + (m : Int) := by omega
      have hslH2 := hidden (fun W => (hcast ▸ hslH.out W : (Instr.sliceAt 9 (str p) (some (.int .i64 ((16 : Nat) : Int))) (some (.int .i64 (16 + (m : Int)))) none).run Try.prog W = .ok (str x.bytes) W))
      clear hsaid hs0 e4 hm480 hsl hcl hslH hcast hxb
      go_wp2_with ((with_reducible apply lit_slice); exact hslH2.out _; simp only [Act.put, List.setIfInBounds_toArray, List.set_cons_zero, List.set_cons_succ])
      refine hclH.out.mono ?_; rintro e w3 ⟨v3, o3, rfl, hs, rfl⟩
      have hst := hst.trans hs
      clear hclH hslH2 hs
      unfold str
      go_wp2_with fail
      (try simp only [Exit.inBlock, Exit.then]); refine bodyPost_ret (results_tmp5 rfl _ _) rfl ?_
      exact ⟨_, o3, rfl, hst, by rw [hsaidH.out]; rfl⟩
end Go.Proofs.YtfgggkheadfiaaaR
/- Contract of the document's answer of layer 8: Records. -/
namespace Go.Proofs.YtfgggkheadfiaaaR
open Go Go.RowKit
attribute [local go_sem ↓] Go.wp_at_zero Go.wp_at_succ

namespace LogM
theorem isHead_said {pages : List (List UInt8)} {p : List UInt8} (h : pages[0]? = some p) : isHead (leavesOf pages) = ((saidL p).2 && (saidL p).1.at' == 0 && (saidL p).1.of' == 0 && (saidL p).1.bytes.length == 0) := by
  cases pages with
  | nil => cases h
  | cons q r =>
    simp only [List.getElem?_cons_zero, Option.some.injEq] at h
    subst h
    unfold leavesOf
    rw [List.takeWhile_cons]
    cases hs : (saidL q).2 with
    | true => simp [isHead]
    | false => simp [isHead]
theorem headStamp_said {pages : List (List UInt8)} {p : List UInt8} (h : pages[0]? = some p) (hs : (saidL p).2 = true) : headStamp (leavesOf pages) = (saidL p).1.stamp := by
  cases pages with
  | nil => cases h
  | cons q r =>
    simp only [List.getElem?_cons_zero, Option.some.injEq] at h
    subst h
    unfold leavesOf
    rw [List.takeWhile_cons, if_pos hs]; rfl
theorem saidL_bytes (p : List UInt8) : (saidL p).1.bytes.length ≤ 480 := by
  unfold saidL
  split
  · simp [noLeaf]
  · rename_i h
    simp only [not_or, Nat.not_lt] at h
    exact leafOf_len p h.2
theorem saidL_small (p : List UInt8) (hp : p.length = 512) : (saidL p).1.at' ≤ 65535 ∧ (saidL p).1.of' ≤ 65535 := by
  unfold saidL
  split
  · simp [noLeaf]
  · have h1 := num_lt ((p.drop 8).take 2) 2 (by simp; omega) (by omega)
    have h2 := num_lt ((p.drop 10).take 2) 2 (by simp; omega) (by omega)
    exact ⟨by show (num ((p.drop 8).take 2)).toNat ≤ _; omega, by show (num ((p.drop 10).take 2)).toNat ≤ _; omega⟩
theorem leaves_le (pages : List (List UInt8)) : (leavesOf pages).length ≤ pages.length := by
  unfold leavesOf; rw [List.length_map]; exact (List.takeWhile_sublist _).length_le
/-- A page that says something, behind pages all of which do. -/
theorem leaves_next {pages : List (List UInt8)} {e : Nat} {p : List UInt8} (he : e ≤ (leavesOf pages).length) (hp : pages[e]? = some p) (hs : (saidL p).2 = true) : e < (leavesOf pages).length := by
  rw [leaves_lt]
  intro i hi
  by_cases hie : i < e
  · exact (leaves_lt pages i).1 (by omega) i (Nat.le_refl _)
  · obtain rfl : i = e := by omega
    exact ⟨p, hp, hs⟩
theorem leaves_not {pages : List (List UInt8)} {e : Nat} {p : List UInt8} (hp : pages[e]? = some p) (hs : (saidL p).2 = false) : ¬ e < (leavesOf pages).length := by
  intro h
  obtain ⟨q, hq, hqs⟩ := (leaves_lt pages e).1 h e (Nat.le_refl _)
  rw [hp] at hq
  simp only [Option.some.injEq] at hq
  subst hq; rw [hs] at hqs; cases hqs
/-- What a page is as leaf i of a record of k leaves. -/
def fits (X : BitVec 64) (k i : Nat) (p : List UInt8) : Bool := (saidL p).2 && (saidL p).1.stamp == X && (saidL p).1.at' == i && (saidL p).1.of' == k
theorem accept_of {pages : List (List UInt8)} {e k : Nat} {last X : BitVec 64} (he : e ≤ (leavesOf pages).length) (h1 : 1 ≤ k) (hk : e + k ≤ pages.length) (hX : last.toNat < X.toNat) (hall : ∀ i, i < k → fits X k i (pages.getD (e + i) []) = true) :
    accept (leavesOf pages) e last = some (k, X, (List.range k).flatMap fun i => (saidL (pages.getD (e + i) [])).1.bytes) ∧ e + k ≤ (leavesOf pages).length := by
  have hget : ∀ i, i < k → pages[e + i]? = some (pages.getD (e + i) []) := fun i hi => by
    rw [List.getD_eq_getElem?_getD, List.getElem?_eq_getElem (by omega)]; rfl
  have hf : ∀ i, i < k → (saidL (pages.getD (e + i) [])).2 = true ∧ (saidL (pages.getD (e + i) [])).1.stamp = X ∧ (saidL (pages.getD (e + i) [])).1.at' = i ∧ (saidL (pages.getD (e + i) [])).1.of' = k := fun i hi => by
    have := hall i hi
    simp only [fits, Bool.and_eq_true, beq_iff_eq] at this
    exact ⟨this.1.1.1, this.1.1.2, this.1.2, this.2⟩
  have hlen : e + k ≤ (leavesOf pages).length := by
    have : e + k - 1 < (leavesOf pages).length := (leaves_lt _ _).2 fun i hi => by
      by_cases hie : i < e
      · exact (leaves_lt pages i).1 (by omega) i (Nat.le_refl _)
      · have h := hget (i - e) (by omega)
        rw [show e + (i - e) = i from by omega] at h
        have h2 := (hf (i - e) (by omega)).1
        rw [show e + (i - e) = i from by omega] at h2
        exact ⟨_, h, h2⟩
    omega
  have hat : ∀ i, i < k → (leavesOf pages)[e + i]? = some (saidL (pages.getD (e + i) [])).1 := fun i hi => leaves_at (by omega) (hget i hi)
  refine ⟨?_, hlen⟩
  rw [accept_intro h1 hlen hX (fun i hi => ⟨_, hat i hi, (hf i hi).2.1, (hf i hi).2.2.1, (hf i hi).2.2.2⟩)]
  congr 3
  have : ((leavesOf pages).drop e).take k = (List.range k).map fun i => (saidL (pages.getD (e + i) [])).1 := by
    apply List.ext_getElem?
    intro i
    rw [get_part, List.getElem?_map]
    split
    · rename_i hi
      rw [hat i hi, List.getElem?_range hi]; rfl
    · rename_i hi
      rw [List.getElem?_eq_none (by simp; omega)]; rfl
  rw [this, List.flatMap_map]
theorem accept_not {pages : List (List UInt8)} {e : Nat} {last : BitVec 64} {p : List UInt8} (hp : pages[e]? = some p)
    (h : (saidL p).2 = false ∨ (saidL p).1.stamp.toNat ≤ last.toNat ∨ (saidL p).1.of' < 1 ∨ pages.length < e + (saidL p).1.of' ∨ ∃ i, i < (saidL p).1.of' ∧ fits (saidL p).1.stamp (saidL p).1.of' i (pages.getD (e + i) []) = false) :
    accept (leavesOf pages) e last = none := by
  cases hac : accept (leavesOf pages) e last with
  | none => rfl
  | some r =>
    exfalso
    obtain ⟨k, X, b⟩ := r
    obtain ⟨a1, a2, a3, a4, -⟩ := accept_some hac
    have hle := leaves_le pages
    obtain ⟨y, hy, y1, y2, y3⟩ := a4 0 (by omega)
    rw [Nat.add_zero] at hy
    obtain ⟨q, hq, hqs, rfl⟩ := leaves_get hy
    rw [hp] at hq
    simp only [Option.some.injEq] at hq
    subst hq
    rcases h with h | h | h | h | ⟨i, hi, h⟩
    · rw [h] at hqs; cases hqs
    · rw [y1] at h; omega
    · rw [y3] at h; omega
    · rw [y3] at h; omega
    · rw [y3] at hi h
      obtain ⟨z, hz, z1, z2, z3⟩ := a4 i hi
      obtain ⟨q2, hq2, hqs2, rfl⟩ := leaves_get hz
      have hg : pages.getD (e + i) [] = q2 := by rw [List.getD_eq_getElem?_getD, hq2]; rfl
      rw [hg, y1] at h
      simp [fits, hqs2, z1, z2, z3] at h
end LogM
theorem results_tmp3 {P : Program} {fn : Func} {a b c : Tmp} (h : fn.results = #[.tmp a, .tmp b, .tmp c]) (tmps : Array Value) (w : World) :
    (results fn tmps).run P w = .ok (.tuple #[tmps.getD a undef, tmps.getD b undef, tmps.getD c undef]) w := by
  simp [results, h]
theorem tvs_cell {w : World} {o : Own} {a : Option Addr} {n c : Nat} {ls : List (List UInt8)} (h : Slc w o (.slice a n c) n (tvs ls)) {i : Nat} {p : List UInt8} (hp : ls[i]? = some p) : ∃ b off, a = some ⟨b, off, none⟩ ∧ w.cell? ⟨b, off + i, none⟩ = some (str p) := by
  obtain ⟨b, off, e, hc, -, -⟩ := h.cell i (x := str p) (by simp [tvs, hp, str])
  exact ⟨b, off, e, hc⟩
def flatN (pages : List (List UInt8)) (e j : Nat) : List UInt8 := (List.range j).flatMap fun i => (saidL (pages.getD (e + i) [])).1.bytes
def wholeN (pages : List (List UInt8)) (X : BitVec 64) (K e j : Nat) : Bool := (List.range j).all fun i => LogM.fits X K i (pages.getD (e + i) [])
theorem flatN_succ (pages : List (List UInt8)) (e j : Nat) : flatN pages e (j + 1) = flatN pages e j ++ (saidL (pages.getD (e + j) [])).1.bytes := by simp [flatN, List.range_succ]
theorem wholeN_succ (pages : List (List UInt8)) (X : BitVec 64) (K e j : Nat) : wholeN pages X K e (j + 1) = (wholeN pages X K e j && LogM.fits X K j (pages.getD (e + j) [])) := by simp [wholeN, List.range_succ]
theorem flatN_len (pages : List (List UInt8)) (e : Nat) : ∀ j, (flatN pages e j).length ≤ 480 * j
  | 0 => by simp [flatN]
  | j + 1 => by
    have := flatN_len pages e j
    have := LogM.saidL_bytes (pages.getD (e + j) [])
    rw [flatN_succ, List.length_append]; omega
def isHead0 (pages : List (List UInt8)) : Bool := LogM.isHead (LogM.leavesOf pages)
/-- What Records tells. -/
def RecsV (pages : List (List UInt8)) (w w' : World) (v : Value) : Prop :=
  ∃ rv, v = .tuple #[.bool (LogM.ofPages 0 pages).headed, rv, .int .i64 ((LogM.ofPages 0 pages).end' : Int)] ∧ w'.ownsRow w.heap.size 9 1 rv (LogM.ofPages 0 pages).records.length (tvs (LogM.ofPages 0 pages).records)
set_option maxRecDepth 100000 in
set_option maxHeartbeats 6400000 in
theorem rrecords_any {w : World} {o : Own} {v : Value} {pages : List (List UInt8)} (hv : Slc w o v pages.length (tvs pages)) (hp : ∀ p ∈ pages, p.length = 512) (h1 : 1 ≤ pages.length) (hn : pages.length ≤ 2000) :
    Calls Try.prog 90 #[v] w (Ret Nobody w o fun v w' _ => RecsV pages w w' v) := by
  obtain ⟨a, c, rfl⟩ := slc_form hv
  obtain ⟨p0, hp0⟩ : ∃ p0, pages[0]? = some p0 := ⟨_, List.getElem?_eq_getElem h1⟩
  have hhead := LogM.isHead_said hp0
  have hno : isHead0 pages = false → (LogM.ofPages 0 pages).headed = false ∧ (LogM.ofPages 0 pages).records = [] ∧ (LogM.ofPages 0 pages).end' = 1 := fun h => by
    unfold isHead0 at h
    refine ⟨h, ?_, ?_⟩
    · show (if LogM.isHead (LogM.leavesOf pages) then _ else _) = _; rw [h]; rfl
    · show (if LogM.isHead (LogM.leavesOf pages) then _ else _) = _; rw [h]; rfl
  have hyes : isHead0 pages = true → (LogM.ofPages 0 pages).headed = true ∧ (LogM.ofPages 0 pages).records = (LogM.readAll (LogM.leavesOf pages)).2.2 ∧ (LogM.ofPages 0 pages).end' = (LogM.readAll (LogM.leavesOf pages)).1 := fun h => by
    unfold isHead0 at h
    refine ⟨h, ?_, ?_⟩
    · show (if LogM.isHead (LogM.leavesOf pages) then _ else _) = _; rw [if_pos h]
    · show (if LogM.isHead (LogM.leavesOf pages) then _ else _) = _; rw [if_pos h]
  change isHead0 pages = _ at hhead
  have hstamp := fun h => LogM.headStamp_said hp0 h
  have hnil : ∀ (w' : World) (o' : Own), Step Nobody w o w' o' → isHead0 pages = false → Ret Nobody w o (fun v w' _ => RecsV pages w w' v) (.returned (.tuple #[.bool false, .slice none 0 0, .int .i64 1])) w' := fun w' o' hs h => by
    obtain ⟨q1, q2, q3⟩ := hno h
    exact ⟨_, o', rfl, hs, .slice none 0 0, by rw [q1, q3]; rfl, by rw [q2]; exact World.ownsRow_nil _ _ _ _⟩
  have hfin : ∀ (w' : World) (rv : Value) (e : Nat) (last : BitVec 64) (rs : List (List UInt8)), isHead0 pages = true → LogM.readAll (LogM.leavesOf pages) = (e, last, rs) → w'.ownsRow w.heap.size 9 1 rv rs.length (tvs rs) → Below w.heap.size w w' →
      Ret Nobody w o (fun v w' _ => RecsV pages w w' v) (.returned (.tuple #[.bool true, rv, .int .i64 (e : Int)])) w' := fun w' rv e last rs h hr hown hbel => by
    obtain ⟨q1, q2, q3⟩ := hyes h
    refine ⟨_, ext w o, rfl, ⟨hbel.os, hbel.tape, hbel.output, hbel.size, fun k hk => if_pos hk, fun k hk _ => hbel.block k hk⟩, rv, by rw [q1, q3, hr], ?_⟩
    rw [q2, hr]
    exact hown
  obtain ⟨b0, f0, rfl, hc0⟩ := tvs_cell hv hp0
  have hc0' : w.cell? ⟨b0, f0, none⟩ = some (str p0) := by simpa using hc0
  obtain ⟨N, hN⟩ : ∃ N, pages.length = N := ⟨_, rfl⟩
  rw [hN] at hv h1 hn ⊢
  have hNi : (0 : Int) < (N : Int) := by omega
  have hvH := hidden hv
  have hNH := hidden hN
  have hpH := hidden hp
  have hnilH := hidden hnil
  have hfinH := hidden hfin
  have hstampH := hidden hstamp
  have hp512 := hp p0 (List.mem_of_getElem? hp0)
  clear hno hyes hc0 hv hN hp hnil hfin hstamp
  go_enter Try.func90, Try.ntmps90
  go_wp2_with fail
  refine (rsays_any p0 hp512 w o).mono ?_; rintro e w1 ⟨v1, o1, rfl, hs1, rfl⟩
  have hb480 := LogM.saidL_bytes p0
  obtain ⟨⟨x0, g0⟩, hS0⟩ : ∃ q, saidL p0 = q := ⟨_, rfl⟩
  have hstampH2 := hidden (fun h => hstampH.out (by rw [hS0]; exact h))
  rw [hS0] at hhead hb480 hstampH2 ⊢
  simp only at hhead hb480 hstampH2
  clear hstampH hS0 hp0
  obtain ⟨S0, at0, of0, bs0⟩ := x0
  simp only [saysV, str] at hhead hb480 hstampH2 ⊢
  cases g0 with
  | false =>
    have hh : isHead0 pages = false := by rw [hhead]; rfl
    have hhH := hidden hh
    clear hhead hh
    go_wp2_with fail
    refine bodyPost_ret (results_tmp3 rfl _ _) rfl ?_
    exact hnilH.out _ _ hs1 hhH.out
  | true =>
    by_cases hat : ¬ at0 = 0
    · have hh : isHead0 pages = false := by rw [hhead]; simp [hat]
      have hati : ((at0 : Int) != 0) = true := by rw [bne_iff_ne]; omega
      have hhH := hidden hh
      clear hhead hh hat
      go_wp2_with fail
      refine bodyPost_ret (results_tmp3 rfl _ _) rfl ?_
      exact hnilH.out _ _ hs1 hhH.out
    have hat := Decidable.not_not.1 hat
    subst hat
    by_cases hof : ¬ of0 = 0
    · have hh : isHead0 pages = false := by rw [hhead]; simp [hof]
      have hofi : ((of0 : Int) != 0) = true := by rw [bne_iff_ne]; omega
      have hhH := hidden hh
      clear hhead hh hof
      go_wp2_with fail
      refine bodyPost_ret (results_tmp3 rfl _ _) rfl ?_
      exact hnilH.out _ _ hs1 hhH.out
    have hof := Decidable.not_not.1 hof
    subst hof
    by_cases hbs : ¬ bs0 = []
    · have hh : isHead0 pages = false := by rw [hhead]; simp [hbs]
      have hbe : bs0.isEmpty = false := by cases bs0 with | nil => exact (hbs rfl).elim | cons _ _ => rfl
      have hhH := hidden hh
      clear hhead hh
      go_wp2_with fail
      refine bodyPost_ret (results_tmp3 rfl _ _) rfl ?_
      exact hnilH.out _ _ hs1 hhH.out
    have hbs := Decidable.not_not.1 hbs
    subst hbs
    have hh : isHead0 pages = true := by rw [hhead]; rfl
    have hhH := hidden hh
    have hstp : LogM.headStamp (LogM.leavesOf pages) = S0 := hstampH2.out rfl
    have hls1 : 1 ≤ (LogM.leavesOf pages).length := LogM.isHead_len hh
    have hle := LogM.leaves_le pages
    rw [hNH.out] at hle
    obtain ⟨ls, hls⟩ : ∃ ls, LogM.leavesOf pages = ls := ⟨_, rfl⟩
    have hr0 : Hid (LogM.readAll ls = LogM.readL ls ls.length (1, S0, [])) := hidden (by rw [← hstp, hls]; rfl)
    rw [hls] at hls1 hle
    have hlsH := hidden hls
    have hbel1 := hs1.below
    have hnilH2 := hnilH
    clear hhead hh hstp hls hnilH hnilH2 hs1 hb480 hstampH2
    go_wp2_with fail
    go_loopw [5, 10, 11] (fun lv out ev wr => ∃ (f e : Nat) (last : BitVec 64) (rs : List (List UInt8)), lv = .int .u64 (last.toNat : Int) ∧ ev = .int .i64 (e : Int) ∧ Hid (LogM.readAll ls = LogM.readL ls f (e, last, rs)) ∧ ls.length - e ≤ f ∧ 1 ≤ e ∧ e ≤ ls.length ∧ rs.length + 1 ≤ e ∧
        wr.ownsRow w.heap.size 9 1 out rs.length (tvs rs) ∧ Below w.heap.size w wr) (fun _ _ ev _ => N - (intOf ev).toNat)
    case atStart => exact ⟨ls.length, 1, S0, [], rfl, rfl, hr0, by omega, Nat.le_refl _, hls1, by simp, World.ownsRow_nil _ _ _ _, hbel1⟩
    case round =>
      clear hbel1 hr0
      obtain ⟨f, e, last, rs, rfl, rfl, hR, hf, he1, hel, hrs, hown, hbel⟩ := hrel
      have hN2i : (N : Int) ≤ 2000 := by omega
      obtain ⟨oa, oc, rfl⟩ := own_form hown
      by_cases hlt : e < N
      · obtain ⟨p, hpe⟩ : ∃ p, pages[e]? = some p := ⟨_, List.getElem?_eq_getElem (by rw [hNH.out]; exact hlt)⟩
        have hs : Step Nobody w o wr (ext w o) := ⟨hbel.os, hbel.tape, hbel.output, hbel.size, fun k hk => if_pos hk, fun k hk _ => hbel.block k hk⟩
        obtain ⟨b1, f1, hab, hc1⟩ := tvs_cell (hvH.out.step hs (fun h => h)) hpe
        simp only [Option.some.injEq, Addr.mk.injEq, and_true] at hab
        obtain ⟨rfl, rfl⟩ := hab
        have hcl := rsays_any p (hpH.out p (List.mem_of_getElem? hpe)) wr (ext w o)
        have hclH := hidden hcl
        have hpeH := hidden hpe
        have hb480 := LogM.saidL_bytes p
        have hsm := LogM.saidL_small p (hpH.out p (List.mem_of_getElem? hpe))
        -- nothing more
        have hstop : LogM.accept ls e last = none → LogM.readAll ls = (e, last, rs) := fun h => hR.out.trans (LogM.readL_stop (s := (e, last, rs)) h f)
        have hnot := fun h => hstop (by rw [← hlsH.out]; exact LogM.accept_not (last := last) hpe h)
        have hnotH := hidden hnot
        clear hcl hpe hstop hnot
        go_wp2_with fail
        refine hclH.out.mono ?_; rintro ee w2 ⟨v2, o2, rfl, hs2, rfl⟩
        have hbel2 : Below w.heap.size w w2 := hbel.trans (Below.mono hs2.below hbel.size)
        have hown2 := ownsRow_same hown (fun k hk => hs2.block k (hown.lt k hk).2 (fun h => h))
        obtain ⟨x, hX⟩ : ∃ x, (saidL p).1 = x := ⟨_, rfl⟩
        obtain ⟨g, hg⟩ : ∃ g, (saidL p).2 = g := ⟨_, rfl⟩
        have hsp : saidL p = (x, g) := by rw [← hX, ← hg]
        rw [hX] at hb480 hsm
        have hXH := hidden hX
        have hgH := hidden hg
        rw [hsp]
        simp only [saysV, str]
        clear hown hbel hX hg hsp hclH hc1
        have hofi : (x.of' : Int) ≤ 65535 := by omega
        have hNe : (N : Int) = (pages.length : Int) := by rw [hNH.out]
        by_cases hbad : g = false ∨ x.stamp.toNat ≤ last.toNat ∨ x.of' < 1 ∨ N < e + x.of'
        · have hra : LogM.readAll ls = (e, last, rs) := hnotH.out (by
            rw [hgH.out, hXH.out, hNH.out]
            rcases hbad with h | h | h | h
            · exact .inl h
            · exact .inr (.inl h)
            · exact .inr (.inr (.inl h))
            · exact .inr (.inr (.inr (.inl h))))
          have hraH := hidden (hfinH.out w2 _ e last rs hhH.out (by rw [hlsH.out]; exact hra) hown2 hbel2)
          clear hra hown2 hbel2 hnotH
          cases g with
          | false =>
            clear hbad
            go_wp2_with fail
            refine bodyPost_ret (results_tmp3 rfl _ _) rfl ?_
            exact hraH.out
          | true =>
            by_cases h2 : x.stamp.toNat ≤ last.toNat
            · have h2i : (x.stamp.toNat : Int) ≤ (last.toNat : Int) := by omega
              clear hbad
              go_wp2_with fail
              refine bodyPost_ret (results_tmp3 rfl _ _) rfl ?_
              exact hraH.out
            have h2i : ¬ (x.stamp.toNat : Int) ≤ (last.toNat : Int) := by omega
            by_cases h3 : x.of' < 1
            · have h3i : (x.of' : Int) < 1 := by omega
              clear hbad
              go_wp2_with fail
              refine bodyPost_ret (results_tmp3 rfl _ _) rfl ?_
              exact hraH.out
            have h3i : ¬ (x.of' : Int) < 1 := by omega
            have h4 : (N : Int) < (e : Int) + (x.of' : Int) := by
              rcases hbad with h | h | h | h
              · cases h
              · exact (h2 h).elim
              · exact (h3 h).elim
              · omega
            clear hbad
            go_wp2_with fail
            refine bodyPost_ret (results_tmp3 rfl _ _) rfl ?_
            exact hraH.out
        · simp only [not_or, Nat.not_lt, Nat.not_le] at hbad
          obtain ⟨hg1, h2, h3, h4⟩ := hbad
          have hgt : g = true := by cases g with | true => rfl | false => exact (hg1 rfl).elim
          subst hgt
          have h2i : ¬ (x.stamp.toNat : Int) ≤ (last.toNat : Int) := by omega
          have h3i : ¬ (x.of' : Int) < 1 := by omega
          have h4i : ¬ (N : Int) < (e : Int) + (x.of' : Int) := by omega
          obtain ⟨K, hK⟩ : ∃ K, x.of' = K := ⟨_, rfl⟩
          obtain ⟨X, hXs⟩ : ∃ X, x.stamp = X := ⟨_, rfl⟩
          rw [hK] at h3 h4 h3i h4i hofi ⊢
          rw [hXs] at h2 h2i ⊢
          have hKH := hidden hK
          have hXsH := hidden hXs
          clear hg1 hK hXs
          go_wp2_with fail
          go_loopw [17, 18, 19] (fun rv whv iv wr => ∃ j : Nat, j ≤ K ∧ iv = .int .i64 j ∧ rv = str (flatN pages e j) ∧ whv = .bool (wholeN pages X K e j) ∧ wr.ownsRow w.heap.size 9 1 (.slice oa rs.length oc) rs.length (tvs rs) ∧ Below w.heap.size w wr) (fun _ _ iv _ => K - (intOf iv).toNat)
          case atStart => exact ⟨0, by omega, rfl, rfl, rfl, hown2, hbel2⟩
          case round =>
            clear hown2 hbel2
            obtain ⟨j, hj, rfl, rfl, rfl, hown, hbel⟩ := hrel
            by_cases hlt2 : j < K
            · obtain ⟨q, hqe⟩ : ∃ q, pages[e + j]? = some q := ⟨_, List.getElem?_eq_getElem (by rw [hNH.out]; omega)⟩
              have hs : Step Nobody w o wr (ext w o) := ⟨hbel.os, hbel.tape, hbel.output, hbel.size, fun k hk => if_pos hk, fun k hk _ => hbel.block k hk⟩
              obtain ⟨b1, f1, hab, hc1⟩ := tvs_cell (hvH.out.step hs (fun h => h)) hqe
              simp only [Option.some.injEq, Addr.mk.injEq, and_true] at hab
              obtain ⟨rfl, rfl⟩ := hab
              have hq512 := hpH.out q (List.mem_of_getElem? hqe)
              have hcl := rsays_any q hq512 wr (ext w o)
              have hgd : pages.getD (e + j) [] = q := by rw [List.getD_eq_getElem?_getD, hqe]; rfl
              have hfl : flatN pages e (j + 1) = flatN pages e j ++ (saidL q).1.bytes := by rw [flatN_succ, hgd]
              have hws : wholeN pages X K e (j + 1) = (wholeN pages X K e j && LogM.fits X K j q) := by rw [wholeN_succ, hgd]
              have hfll := flatN_len pages e j
              have hb4 := LogM.saidL_bytes q
              have hsm4 := LogM.saidL_small q hq512
              have hejN : ((e + j : Nat) : Int) < (N : Int) := by omega
              obtain ⟨ej, hejE⟩ : ∃ ej, e + j = ej := ⟨_, rfl⟩
              rw [hejE] at hc1 hejN
              have hej : (e : Int) + (j : Int) = (ej : Int) := by omega
              have hclH := hidden hcl
              have hK2 : K ≤ 2000 := by omega
              clear hcl hqe hgd hs hejE
              go_wp2_with fail
              refine hclH.out.mono ?_; rintro ee w4 ⟨v4, o4, rfl, hs4, rfl⟩
              have hbel4 : Below w.heap.size w w4 := hbel.trans (Below.mono hs4.below hbel.size)
              have hown4 := ownsRow_same hown (fun k hk => hs4.block k (hown.lt k hk).2 (fun h => h))
              have had := run_str_add w4 (flatN pages e j) (saidL q).1.bytes (by omega)
              rw [← hfl] at had
              unfold LogM.fits at hws
              obtain ⟨⟨y, gy⟩, hsq⟩ : ∃ z, saidL q = z := ⟨_, rfl⟩
              rw [hsq] at had hws hsm4 ⊢
              simp only at had hws hsm4
              simp only [saysV]
              obtain ⟨yS, ya, yo, yb⟩ := y
              simp only at had hws hsm4 ⊢
              obtain ⟨wv, hwv⟩ : ∃ wv, wholeN pages X K e j = wv := ⟨_, rfl⟩
              obtain ⟨F0, hF0⟩ : ∃ F0, flatN pages e j = F0 := ⟨_, rfl⟩
              obtain ⟨F1, hF1⟩ : ∃ F1, flatN pages e (j + 1) = F1 := ⟨_, rfl⟩
              rw [hwv] at hws ⊢
              rw [hF0, hF1] at had
              rw [hF0]
              have hF1H := hidden hF1
              have hwsH := hidden hws
              have hadH := hidden had
              have hya := hsm4.1
              have hyo := hsm4.2
              have hown4H := hidden hown4
              have hbel4H := hidden hbel4
              clear hown hbel hs4 hsq hwv hF0 hF1 had hws hclH hc1 hfl hfll hb4 hsm4 hej hejN hown4 hbel4
              have hX64 := X.isLt
              by_cases hall : wv = true ∧ gy = true ∧ yS = X ∧ ya = j ∧ yo = K
              · obtain ⟨rfl, rfl, rfl, rfl, rfl⟩ := hall
                have hw1 := hidden (hwsH.out.trans (show _ = true by simp))
                go_wp2_with ((with_reducible apply lit_add); exact hadH.out; simp only [Act.put, List.setIfInBounds_toArray, List.set_cons_zero, List.set_cons_succ])
                go_roundw
                case rel => exact ⟨ya + 1, by omega, by go_num, by rw [hF1H.out], by rw [hw1.out], hown4H.out, hbel4H.out⟩
                case measure => simp [intOf]; omega
              · have hw1 := hidden (hwsH.out.trans (show _ = false by
                  cases wv with
                  | false => rfl
                  | true =>
                    cases gy with
                    | false => rfl
                    | true =>
                      simp only [Bool.true_and]
                      simp only [true_and] at hall
                      simp only [Bool.and_eq_false_imp, Bool.and_eq_true, beq_iff_eq, beq_eq_false_iff_ne, and_imp]
                      intro h1 h2 h3
                      exact hall ⟨h1, h2, h3⟩))
                cases wv with
                | false =>
                  clear hall
                  go_wp2_with ((with_reducible apply lit_add); exact hadH.out; simp only [Act.put, List.setIfInBounds_toArray, List.set_cons_zero, List.set_cons_succ])
                  go_roundw
                  case rel => exact ⟨j + 1, by omega, by go_num, by rw [hF1H.out], by rw [hw1.out], hown4H.out, hbel4H.out⟩
                  case measure => simp [intOf]; omega
                | true =>
                  cases gy with
                  | false =>
                    clear hall
                    go_wp2_with ((with_reducible apply lit_add); exact hadH.out; simp only [Act.put, List.setIfInBounds_toArray, List.set_cons_zero, List.set_cons_succ])
                    go_roundw
                    case rel => exact ⟨j + 1, by omega, by go_num, by rw [hF1H.out], by rw [hw1.out], hown4H.out, hbel4H.out⟩
                    case measure => simp [intOf]; omega
                  | true =>
                    by_cases h1 : yS = X
                    · subst h1
                      by_cases h2 : ya = j
                      · subst h2
                        have h3 : ¬ yo = K := fun h => hall ⟨rfl, rfl, rfl, rfl, h⟩
                        have h3i : ((yo : Int) == (K : Int)) = false := by rw [beq_eq_false_iff_ne]; omega
                        clear hall h3
                        go_wp2_with ((with_reducible apply lit_add); exact hadH.out; simp only [Act.put, List.setIfInBounds_toArray, List.set_cons_zero, List.set_cons_succ])
                        go_roundw
                        case rel => exact ⟨ya + 1, by omega, by go_num, by rw [hF1H.out], by rw [hw1.out], hown4H.out, hbel4H.out⟩
                        case measure => simp [intOf]; omega
                      · have h2i : ((ya : Int) == (j : Int)) = false := by rw [beq_eq_false_iff_ne]; omega
                        clear hall
                        go_wp2_with ((with_reducible apply lit_add); exact hadH.out; simp only [Act.put, List.setIfInBounds_toArray, List.set_cons_zero, List.set_cons_succ])
                        go_roundw
                        case rel => exact ⟨j + 1, by omega, by go_num, by rw [hF1H.out], by rw [hw1.out], hown4H.out, hbel4H.out⟩
                        case measure => simp [intOf]; omega
                    · have h1i : ((yS.toNat : Int) == (X.toNat : Int)) = false := by
                        rw [beq_eq_false_iff_ne]; intro h; exact h1 (BitVec.eq_of_toNat_eq (by omega))
                      clear hall
                      go_wp2_with ((with_reducible apply lit_add); exact hadH.out; simp only [Act.put, List.setIfInBounds_toArray, List.set_cons_zero, List.set_cons_succ])
                      go_roundw
                      case rel => exact ⟨j + 1, by omega, by go_num, by rw [hF1H.out], by rw [hw1.out], hown4H.out, hbel4H.out⟩
                      case measure => simp [intOf]; omega
            · have hjK : j = K := by omega
              subst hjK
              cases hwh : wholeN pages X j e j with
              | false =>
                have hra : LogM.readAll ls = (e, last, rs) := hnotH.out (by
                  rw [hXH.out, hKH.out, hXsH.out]
                  refine .inr (.inr (.inr (.inr ?_)))
                  unfold wholeN at hwh
                  rw [List.all_eq_false] at hwh
                  obtain ⟨i, hi, hfi⟩ := hwh
                  exact ⟨i, List.mem_range.1 hi, by simpa using hfi⟩)
                have hraH := hidden (hfinH.out wr _ e last rs hhH.out (by rw [hlsH.out]; exact hra) hown hbel)
                clear hra hown hbel hnotH hwh
                go_wp2_with fail
                refine bodyPost_ret (results_tmp3 rfl _ _) rfl ?_
                exact hraH.out
              | true =>
                have hacc := LogM.accept_of (pages := pages) (e := e) (k := j) (last := last) (X := X) (by rw [hlsH.out]; exact hel) h3 (by rw [hNH.out]; omega) h2 (fun i hi => by
                  unfold wholeN at hwh
                  rw [List.all_eq_true] at hwh
                  exact hwh i (List.mem_range.2 hi))
                rw [hlsH.out] at hacc
                obtain ⟨hac, hlen⟩ := hacc
                change LogM.accept ls e last = some (j, X, flatN pages e j) at hac
                obtain ⟨f', rfl⟩ : ∃ f', f = f' + 1 := ⟨f - 1, by omega⟩
                have hR' : Hid (LogM.readAll ls = LogM.readL ls f' (e + j, X, rs ++ [flatN pages e j])) := hidden (hR.out.trans (LogM.readL_some (s := (e, last, rs)) hac f'))
                obtain ⟨F0, hF0⟩ : ∃ F0, flatN pages e j = F0 := ⟨_, rfl⟩
                rw [hF0] at hR' ⊢
                have hownA := hown.alloc (.cells #[str F0] 9)
                have hnb : (wr.alloc (.cells #[str F0] 9)).heap[wr.heap.size]? = some (.cells [str F0].toArray 9 (0, 0)) := heap_alloc_new wr _
                obtain ⟨g, cap, w3, hrun, hown3, hgrow, hat, hlt3⟩ := run_append_row (P := Try.prog) _ 41 41 9 Try.underlying41 inf9 rfl (by omega) (by have := hbel.size; simp; omega) _ rs.length (tvs rs) hownA wr.heap.size 0 1 1
                  [str F0] rfl (range_whole hnb) (one_cons rfl (by simp)) (by omega) (by omega) (by omega)
                have hb3 : Below w.heap.size w w3 := (hbel.alloc hbel.size _).grown hgrow (by have := hbel.size; simp; omega) (fun k hk => (hown.lt k hk).1)
                have htk : tvs rs ++ [str F0] = tvs (rs ++ [F0]) := by simp [tvs, str]
                rw [htk] at hown3
                have hln : (rs ++ [F0]).length = rs.length + 1 := by simp
                have hej : (e : Int) + (j : Int) = ((e + j : Nat) : Int) := by omega
                have hrunH := hidden hrun
                have hbs := hidden (buildSlice41 wr F0)
                have hejH := hidden hej
                clear hrun hat hlt3 hnb hownA htk hac hwh hown hbel hej hF0
                go_wp2_with (first
                  | ((with_reducible apply lit_buildSlice #[(0, str F0)] rfl); exact hbs.out; simp only [Act.put, List.setIfInBounds_toArray, List.set_cons_zero, List.set_cons_succ])
                  | ((with_reducible apply lit_append); exact hrunH.out; simp only [Act.put, List.setIfInBounds_toArray, List.set_cons_zero, List.set_cons_succ]))
                go_roundw
                case rel => exact ⟨f', e + j, X, rs ++ [F0], by go_num, by rw [hejH.out], hR', by omega, by omega, by omega, by rw [hln]; omega, by rw [hln]; exact hown3, hb3⟩
                case measure => simp [intOf]; omega
      · have heN : e = N := by omega
        have hra : LogM.readAll ls = (e, last, rs) := hR.out.trans (LogM.readL_stop (s := (e, last, rs)) (by unfold LogM.accept; rw [List.getElem?_eq_none (by show ls.length ≤ e; omega)]) f)
        have hraH := hidden (hfinH.out wr _ e last rs hhH.out (by rw [hlsH.out]; exact hra) hown hbel)
        subst heN
        clear hra hown hbel
        go_wp2_with fail
        refine bodyPost_ret (results_tmp3 rfl _ _) rfl ?_
        exact hraH.out
end Go.Proofs.YtfgggkheadfiaaaR
/- Contracts of the document's answer of layer 8: Newest. -/
namespace Go.Proofs.YtfgggkheadfiaaaR
open Go Go.RowKit
attribute [local go_sem ↓] Go.wp_at_zero Go.wp_at_succ

set_option maxRecDepth 100000 in
set_option maxHeartbeats 3200000 in
theorem rnewest_any {w : World} {o : Own} {v : Value} {pages : List (List UInt8)} (hv : Slc w o v pages.length (tvs pages)) (hp : ∀ p ∈ pages, p.length = 512) (hn : pages.length ≤ 2000) :
    Calls Try.prog 80 #[v] w (Ret Nobody w o fun v _ o' => v = .int .u64 ((LogM.newest pages).toNat : Int) ∧ o' = o) := by
  obtain ⟨a, c, rfl⟩ := slc_form hv
  obtain ⟨N, hN⟩ : ∃ N, pages.length = N := ⟨_, rfl⟩
  rw [hN] at hv hn ⊢
  have hvH := hidden hv
  have hNH := hidden hN
  have hpH := hidden hp
  have hall : pages.take N = pages := List.take_of_length_le (by omega)
  have hallH := hidden hall
  clear hv hN hp hall
  go_enter Try.func80, Try.ntmps80
  go_wp2_with fail
  go_loopw [3, 4] (fun nv iv wr => ∃ k : Nat, k ≤ N ∧ iv = .int .i64 k ∧ nv = .int .u64 ((LogM.newest (pages.take k)).toNat : Int) ∧ Step Nobody w o wr o) (fun _ iv _ => N - (intOf iv).toNat)
  case atStart => exact ⟨0, by omega, rfl, rfl, Step.refl _ _ _⟩
  case round =>
    obtain ⟨k, hk, rfl, rfl, hst⟩ := hrel
    by_cases hlt : k < N
    · obtain ⟨p, hpe⟩ : ∃ p, pages[k]? = some p := ⟨_, List.getElem?_eq_getElem (by rw [hNH.out]; exact hlt)⟩
      have hst2 := hst.drew
      obtain ⟨b1, f1, hab, hc1⟩ := tvs_cell (hvH.out.step hst2 (fun h => h)) hpe
      subst hab
      have hp512 := hpH.out p (List.mem_of_getElem? hpe)
      have hsn := LogM.newest_snoc pages k p hpe
      obtain ⟨S, hS⟩ : ∃ S, LogM.newest (pages.take k) = S := ⟨_, rfl⟩
      obtain ⟨A, hA⟩ : ∃ A, num (p.take 8) = A := ⟨_, rfl⟩
      obtain ⟨B, hB⟩ : ∃ B, num (p.drop 504) = B := ⟨_, rfl⟩
      rw [hS, hA, hB] at hsn
      rw [hS]
      have h8 := fun W => rvalue_any (p.take 8) (by simp; omega) W
      have h5 := fun W => rvalue_any (p.drop 504) (by simp; omega) W
      rw [hA] at h8
      rw [hB] at h5
      have h8H := hidden h8
      have h5H := hidden h5
      have hsnH := hidden hsn
      clear h8 h5 hsn hS hA hB hpe hst
      go_wp2_with fail
      refine wp_region_need (fun w' => w'.cell? ⟨b1, f1 + k, none⟩ = some (str p)) (fun _ => true) (by kernel_rfl) hc1 (fun hHeld => ?_)
      refine wpAnyN_take (i := 0) (v := ?_) rfl (by kernel_rfl) (by kernel_rfl) (by kernel_rfl) (by kernel_rfl) (fun _ _ _ h => h) (Or.inl ⟨by rfl, ?_⟩) (by assumption) ?_
      rotate_left
      · intro w hSw; ((try dsimp only at hSw); go_simp; (try with_reducible rfl))
      simp only [Act.put, List.setIfInBounds_toArray, List.set_cons_zero, List.set_cons_succ]
      refine wpAnyN_take (i := 1) (v := ?_) rfl (by kernel_rfl) (by kernel_rfl) (by kernel_rfl) (by kernel_rfl) (fun _ _ _ h => h) (Or.inl ⟨by rfl, ?_⟩) (by assumption) ?_
      rotate_left
      · intro w hSw; ((try dsimp only at hSw); go_simp; (try with_reducible rfl))
      simp only [Act.put, List.setIfInBounds_toArray, List.set_cons_zero, List.set_cons_succ]
      refine wpAnyN_take (i := 2) (v := ?_) rfl (by kernel_rfl) (by kernel_rfl) (by kernel_rfl) (by kernel_rfl) (fun _ _ _ h => h) (Or.inl ⟨by rfl, ?_⟩) (by assumption) ?_
      rotate_left
      · intro w hSw; ((try dsimp only at hSw); go_simp; (try with_reducible rfl))
      simp only [Act.put, List.setIfInBounds_toArray, List.set_cons_zero, List.set_cons_succ]
      refine wpAnyN_take (i := 3) (v := ?_) rfl (by kernel_rfl) (by kernel_rfl) (by kernel_rfl) (by kernel_rfl) (fun _ _ _ h => h) (Or.inl ⟨by rfl, ?_⟩) (by assumption) ?_
      rotate_left
      · intro w hSw; ((try dsimp only at hSw); go_simp; (try with_reducible rfl))
      simp only [Act.put, List.setIfInBounds_toArray, List.set_cons_zero, List.set_cons_succ]
      refine wpAnyN_take (i := 4) (v := ?_) rfl (by kernel_rfl) (by kernel_rfl) (by kernel_rfl) (by kernel_rfl) (fun _ _ _ h => h) (Or.inl ⟨by rfl, ?_⟩) (by assumption) ?_
      rotate_left
      · intro w hSw; ((try dsimp only at hSw); go_simp; (try with_reducible rfl))
      simp only [Act.put, List.setIfInBounds_toArray, List.set_cons_zero, List.set_cons_succ]
      refine wpAnyN_take (i := 5) (v := str (p.take 8)) rfl (by kernel_rfl) (by kernel_rfl) (by kernel_rfl) (by kernel_rfl) (fun _ _ _ h => h) (yields_run rfl (fun w hSw => ?_)) (by assumption) ?_
      · refine exec_slice 9 (.tmp 15) none (some (.const (.int .i64 8))) none rfl ?_
        exact run_str_take w p 8 (by omega)
      simp only [Act.put, List.setIfInBounds_toArray, List.set_cons_zero, List.set_cons_succ]
      refine wpAnyN_take (i := 7) (v := ?_) rfl (by kernel_rfl) (by kernel_rfl) (by kernel_rfl) (by kernel_rfl) (fun _ _ _ h => h) (Or.inl ⟨by rfl, ?_⟩) (by assumption) ?_
      rotate_left
      · intro w hSw; ((try dsimp only at hSw); go_simp; (try with_reducible rfl))
      simp only [Act.put, List.setIfInBounds_toArray, List.set_cons_zero, List.set_cons_succ]
      refine wpAnyN_take (i := 8) (v := ?_) rfl (by kernel_rfl) (by kernel_rfl) (by kernel_rfl) (by kernel_rfl) (fun _ _ _ h => h) (Or.inl ⟨by rfl, ?_⟩) (by assumption) ?_
      rotate_left
      · intro w hSw; ((try dsimp only at hSw); go_simp; (try with_reducible rfl))
      simp only [Act.put, List.setIfInBounds_toArray, List.set_cons_zero, List.set_cons_succ]
      refine wpAnyN_take (i := 9) (v := ?_) rfl (by kernel_rfl) (by kernel_rfl) (by kernel_rfl) (by kernel_rfl) (fun _ _ _ h => h) (Or.inl ⟨by rfl, ?_⟩) (by assumption) ?_
      rotate_left
      · intro w hSw; ((try dsimp only at hSw); go_simp; (try with_reducible rfl))
      simp only [Act.put, List.setIfInBounds_toArray, List.set_cons_zero, List.set_cons_succ]
      refine wpAnyN_take (i := 10) (v := ?_) rfl (by kernel_rfl) (by kernel_rfl) (by kernel_rfl) (by kernel_rfl) (fun _ _ _ h => h) (Or.inl ⟨by rfl, ?_⟩) (by assumption) ?_
      rotate_left
      · intro w hSw; ((try dsimp only at hSw); go_simp; (try with_reducible rfl))
      simp only [Act.put, List.setIfInBounds_toArray, List.set_cons_zero, List.set_cons_succ]
      refine wpAnyN_take (i := 11) (v := str (p.drop 504)) rfl (by kernel_rfl) (by kernel_rfl) (by kernel_rfl) (by kernel_rfl) (fun _ _ _ h => h) (yields_run rfl (fun w hSw => ?_)) (by assumption) ?_
      · refine exec_slice 9 (.tmp 21) (some (.const (.int .i64 504))) none none rfl ?_
        exact run_str_drop w p 504 (by omega)
      simp only [Act.put, List.setIfInBounds_toArray, List.set_cons_zero, List.set_cons_succ]
      refine wpAnyN_one (i := 6) rfl (by kernel_rfl) ?_
      go_wp2_with fail
      refine (h8H.out _).mono ?_; rintro e w1 ⟨rfl, rfl⟩
      go_wp2_with fail
      refine ⟨fun _ => hHeld, ?_⟩
      refine wpAnyN_one (i := 12) rfl (by kernel_rfl) ?_
      go_wp2_with fail
      refine (h5H.out _).mono ?_; rintro e w1 ⟨rfl, rfl⟩
      go_wp2_with fail
      refine ⟨fun _ => hHeld, ?_⟩
      refine wpAnyN_take (i := 13) (v := .int .u64 ((LogM.umax (LogM.umax S A) B).toNat : Int)) rfl (by kernel_rfl) (by kernel_rfl) (by kernel_rfl) (by kernel_rfl) (fun _ _ _ h => h) (Or.inl ⟨by rfl, fun w hSw => by (try dsimp only at hSw); go_simp; exact umax3_int S A B⟩) (by assumption) ?_
      simp only [Act.put, List.setIfInBounds_toArray, List.set_cons_zero, List.set_cons_succ]
      refine wpAnyN_one (i := 14) rfl (by kernel_rfl) ?_
      go_wp2_with fail
      refine ⟨fun _ => hHeld, ?_⟩
      refine wpAnyN_done (by kernel_rfl) ?_ _
      clear hc1 hHeld
      go_wp2_with fail
      go_roundw
      case rel => exact ⟨k + 1, by omega, by go_num, by rw [hsnH.out], hst2⟩
      case measure => simp [intOf]; omega
    · have hkN : k = N := by omega
      subst hkN
      go_wp2_with fail
      go_ret
      exact ⟨_, o, rfl, hst, by rw [hallH.out]; rfl, rfl⟩
end Go.Proofs.YtfgggkheadfiaaaR
/- The document's own log of layer 8, how it lies in memory; contract of Open. -/
namespace Go.Proofs.YtfgggkheadfiaaaR
open Go Go.RowKit
attribute [local go_sem ↓] Go.wp_at_zero Go.wp_at_succ

/-- The document's log of the pages R, with the stamp S, lies at block p; its blocks are the object E's. -/
def RefL (w : World) (o : Own) (E p : Nat) (R : List (List UInt8)) (S : BitVec 64) : Prop :=
  ∃ g cap cur, w.heap[p]? = some (.cells #[.slice (some ⟨g, 0, none⟩) R.length cap, .int .u64 (S.toNat : Int)] 70 (0, 0)) ∧ w.heap[g]? = some (.cells (cur : List Value).toArray 9 (0, 0)) ∧ cur.take R.length = tvs R ∧
    R.length ≤ cap ∧ cap ≤ maxLen ∧ o p = (E, 0) ∧ o g = (E, 1) ∧ 1 ≤ R.length ∧ R.length ≤ 2000 ∧ ∀ q ∈ R, q.length = 512
theorem RefL.step {T : Nat → Prop} {w w' : World} {o o' : Own} {E p : Nat} {R : List (List UInt8)} {S : BitVec 64} (h : RefL w o E p R S) (s : Step T w o w' o') (hT : ¬ T E) : RefL w' o' E p R S := by
  obtain ⟨g, cap, cur, h1, h2, h3, h4, h5, h6, h7, h8⟩ := h
  have hp := lt_of_block h1
  have hg := lt_of_block h2
  exact ⟨g, cap, cur, by rw [s.block p hp (by rw [h6]; exact hT)]; exact h1, by rw [s.block g hg (by rw [h7]; exact hT)]; exact h2, h3, h4, h5, by rw [s.own p hp]; exact h6, by rw [s.own g hg]; exact h7, h8⟩
def ROpened (w w' : World) (o' : Own) (E : Nat) (ps : List (List UInt8)) (v : Value) : Prop :=
  (LogM.newest ps = BitVec.allOnes 64 → v = .tuple #[.pointer none, .int .i64 2]) ∧
  (LogM.newest ps ≠ BitVec.allOnes 64 → ∃ p, w.heap.size ≤ p ∧ v = .tuple #[.pointer (some ⟨p, 0, none⟩), .int .i64 0] ∧ RefL w' o' E p ps (LogM.newest ps))
set_option maxRecDepth 100000 in
set_option maxHeartbeats 3200000 in
theorem ropen_any {w : World} {o : Own} {v : Value} {E : Nat} {pages : List (List UInt8)} (hv : Slc w o v pages.length (tvs pages)) (hp : ∀ p ∈ pages, p.length = 512) (h1 : 1 ≤ pages.length) (hn : pages.length ≤ 2000) :
    Calls Try.prog 39 #[v] w (Ret Nobody w o fun v w' o' => ROpened w w' o' E pages v) := by
  have s1 := (Step.refl Nobody w o).alloc (.cells #[] 9) (0, 0)
  have z1 : (w.alloc (.cells #[] 9)).heap.size = w.heap.size + 1 := by simp
  have hv1 := hv.step s1 (fun h => h)
  obtain ⟨W1, hW1⟩ : ∃ W1, w.alloc (.cells #[] 9) = W1 := ⟨_, rfl⟩
  rw [hW1] at s1 z1 hv1
  generalize tagAt o w.heap.size (0, 0) = o1 at *
  rcases hv1 with ⟨_, h0, _⟩ | ⟨b, off, c, rfl, y1, y2, y3, y4, y5⟩
  · omega
  have hv1 : Slc W1 o1 (.slice (some ⟨b, off, none⟩) pages.length c) pages.length (tvs pages) := .inr ⟨b, off, c, rfl, y1, y2, y3, y4, y5⟩
  obtain ⟨cap, W2, hrn, hown, hbel⟩ := append_empty (P := Try.prog) W1 41 41 9 Try.underlying41 inf9 rfl (some ⟨w.heap.size, 0, none⟩) b off pages.length c (tvs pages) (by rw [length_tvs]; omega) y5 (one_tvs _) (by omega) (by omega) (by omega)
  have s2 := Step.ofBelow (o := o1) hbel (E, 1)
  have hnw := rnewest_any (hv1.step s2 (fun h => h)) hp hn
  obtain ⟨g, cap2, cur, hgE, hgb, hgh, hcur⟩ := own_block hown h1
  simp only [Value.slice.injEq, Option.some.injEq, Addr.mk.injEq, and_true, true_and] at hgE
  obtain ⟨rfl, rfl⟩ := hgE
  have hcapb : pages.length ≤ cap ∧ cap ≤ maxLen := by
    rcases hown.2 with ⟨h, _⟩ | ⟨g', cap', cur', h, _, _, q1, q2, _⟩
    · cases h
    · simp only [Value.slice.injEq, true_and] at h
      obtain ⟨-, rfl⟩ := h
      exact ⟨q1, q2⟩
  have hgo : extT W1 o1 (E, 1) W1.heap.size = (E, 1) := extT_new (Nat.le_refl _)
  generalize extT W1 o1 (E, 1) = o2 at *
  have hst := s1.trans s2
  obtain ⟨N, hN⟩ : ∃ N, pages.length = N := ⟨_, rfl⟩
  have hNH := hidden hN
  rw [hN] at hrn hnw hv y1 h1 hn ⊢
  have hrnH := hidden hrn
  have hW1H := hidden hW1
  have hnwH := hidden hnw
  have hpH := hidden hp
  have hcurH := hidden hcur
  have hcapH := hidden hcapb
  have hW1s : w.heap.size ≤ W1.heap.size := by omega
  obtain ⟨S, hS⟩ : ∃ S, LogM.newest pages = S := ⟨_, rfl⟩
  have hSH := hidden hS
  rw [hS] at hnwH
  clear hrn hW1 hnw hp hcur hcapb hv hv1 hown hbel s1 s2 z1 y1 y2 y3 y4 y5 hN hS
  go_enter Try.func39, Try.ntmps39
  go_wp2_with ((with_reducible apply lit_append); (rw [hW1H.out]; exact hrnH.out); simp only [Act.put, List.setIfInBounds_toArray, List.set_cons_zero, List.set_cons_succ])
  refine hnwH.out.mono ?_; rintro e W3 ⟨v3, o3, rfl, hs, rfl, rfl⟩
  have hgh3 := (hs.block _ (lt_of_block hgh) (fun h => h)).trans hgh
  have hgl := lt_of_block hgh3
  have hst := hst.trans hs
  have hsz := hst.size
  have hst4 := hst.alloc (.cells #[.slice (some ⟨W1.heap.size, 0, none⟩) N cap, .int .u64 (S.toNat : Int)] 70) (E, 0)
  have hbx : (W3.alloc (.cells #[.slice (some ⟨W1.heap.size, 0, none⟩) N cap, .int .u64 (S.toNat : Int)] 70)).heap[W3.heap.size]? = some (.cells #[.slice (some ⟨W1.heap.size, 0, none⟩) N cap, .int .u64 (S.toNat : Int)] 70 (0, 0)) := heap_alloc_new W3 _
  have hgh4 : (W3.alloc (.cells #[.slice (some ⟨W1.heap.size, 0, none⟩) N cap, .int .u64 (S.toNat : Int)] 70)).heap[W1.heap.size]? = some (.cells cur.toArray 9 (0, 0)) := by rw [Below.heap_alloc _ _ _ hgl]; exact hgh3
  have hog : tagAt o3 W3.heap.size (E, 0) W1.heap.size = (E, 1) := by rw [tagAt_other _ _ (by omega)]; exact hgo
  have hop : tagAt o3 W3.heap.size (E, 0) W3.heap.size = (E, 0) := tagAt_same _ _ _
  have hfin : S ≠ BitVec.allOnes 64 → RefL (W3.alloc (.cells #[.slice (some ⟨W1.heap.size, 0, none⟩) N cap, .int .u64 (S.toNat : Int)] 70)) (tagAt o3 W3.heap.size (E, 0)) E W3.heap.size pages S := fun _ => by
    refine ⟨W1.heap.size, cap, cur, by rw [hNH.out]; exact hbx, hgh4, hcurH.out, hcapH.out.1, hcapH.out.2, hop, hog, by rw [hNH.out]; exact h1, by rw [hNH.out]; exact hn, hpH.out⟩
  have hstF := hidden hst4
  have hfinH := hidden hfin
  clear hs hst hst4 hfin hgh hgh3 hgh4 hog hop hbx hcurH hcapH
  by_cases hS1 : S = BitVec.allOnes 64
  · have hSi : ((S.toNat : Int) == 18446744073709551615) = true := by rw [hS1]; rfl
    have hSe := hidden (show (S.toNat : Int) = 18446744073709551615 by rw [hS1]; rfl)
    go_wp2_with fail
    go_ret2
    exact ⟨_, tagAt o3 W3.heap.size (E, 0), rfl, by have := hstF.out; rw [hSe.out] at this; exact this, fun _ => rfl, fun h => absurd (hSH.out.trans hS1) h⟩
  · have hSi : ((S.toNat : Int) == 18446744073709551615) = false := by
      rw [beq_eq_false_iff_ne]
      intro h; apply hS1; apply BitVec.eq_of_toNat_eq; simp; omega
    go_wp2_with fail
    go_ret2
    exact ⟨_, _, rfl, hstF.out, fun h => absurd (hSH.out.symm.trans h) hS1, fun _ => ⟨W3.heap.size, by omega, rfl, by rw [hSH.out]; exact hfinH.out hS1⟩⟩
end Go.Proofs.YtfgggkheadfiaaaR
/- Contracts of the document's answer of layer 8: head, Reset. -/
namespace Go.Proofs.YtfgggkheadfiaaaR
open Go Go.RowKit
attribute [local go_sem ↓] Go.wp_at_zero Go.wp_at_succ

theorem wrap_inc (S : BitVec 64) : IntKind.u64.wrap ((S.toNat : Int) + 1) = ((S + 1#64).toNat : Int) := by
  rw [BitVec.toNat_add]
  simp [IntKind.wrap, IntKind.bits, IntKind.signed]
theorem tvs_set2 (ls : List (List UInt8)) (i : Nat) (b : List UInt8) : (tvs ls).set i (str b) = tvs (ls.set i b) := by simp [tvs, List.map_set, str]
theorem take_set_tvs {cur : List Value} {R : List (List UInt8)} (h : cur.take R.length = tvs R) (i : Nat) (b : List UInt8) : (cur.set i (str b)).take R.length = tvs (R.set i b) := by
  rw [List.take_set, h, tvs_set2]
/-- A page is written. -/
theorem RefL.put {w : World} {o : Own} {E p g cap : Nat} {cur : List Value} {R : List (List UInt8)} {S : BitVec 64}
    (h1 : w.heap[p]? = some (.cells #[.slice (some ⟨g, 0, none⟩) R.length cap, .int .u64 (S.toNat : Int)] 70 (0, 0))) (h2 : w.heap[g]? = some (.cells cur.toArray 9 (0, 0))) (h3 : cur.take R.length = tvs R) (h4 : R.length ≤ cap) (h5 : cap ≤ maxLen)
    (h6 : o p = (E, 0)) (h7 : o g = (E, 1)) (h8 : 1 ≤ R.length) (h9 : R.length ≤ 2000) (h10 : ∀ q ∈ R, q.length = 512) (i : Nat) (b : List UInt8) (hb : b.length = 512) :
    RefL (w.setCell ⟨g, i, none⟩ (str b)) o E p (R.set i b) S := by
  have hpg : p ≠ g := by rintro rfl; rw [h6] at h7; simp at h7
  refine ⟨g, cap, cur.set i (str b), ?_, heap_setCell_at _ h2, ?_, by rw [List.length_set]; exact h4, h5, h6, h7, by rw [List.length_set]; exact h8, by rw [List.length_set]; exact h9, fun q hq => ?_⟩
  · rw [Below.heap_setCell _ _ _ _ hpg, List.length_set]; exact h1
  · rw [List.length_set]; exact take_set_tvs h3 i b
  · rcases List.mem_or_eq_of_mem_set hq with hq | rfl
    · exact h10 q hq
    · exact hb
set_option maxRecDepth 100000 in
set_option maxHeartbeats 3200000 in
theorem rhead_any {w : World} {o : Own} {E p : Nat} {R : List (List UInt8)} {S : BitVec 64} (h : RefL w o E p R S) (_hE : E ≠ 0) :
    Calls Try.prog 91 #[.pointer (some ⟨p, 0, none⟩)] w (Ret (Only E) w o fun v w' o' => v = .tuple #[] ∧ RefL w' o' E p (LogM.headPages R (S + 1#64)) (S + 1#64)) := by
  obtain ⟨g, cap, cur, h1, h2, h3, h4, h5, h6, h7, h8, h9, h10⟩ := h
  have hpg : p ≠ g := by rintro rfl; rw [h6] at h7; simp at h7
  have hinc := wrap_inc S
  obtain ⟨N, hN⟩ : ∃ N, R.length = N := ⟨_, rfl⟩
  have hNH := hidden hN
  have c0 : w.cell? ⟨p, 0, none⟩ = some (.slice (some ⟨g, 0, none⟩) N cap) := by rw [cell_of_block (cs := [_, _]) h1 0, ← hN]; rfl
  have c1 : w.cell? ⟨p, 1, none⟩ = some (.int .u64 (S.toNat : Int)) := cell_of_block (cs := [_, _]) h1 1
  have f1 := free_of_block (cs := [_, _]) h1 1
  obtain ⟨T, hT⟩ : ∃ T, S + 1#64 = T := ⟨_, rfl⟩
  rw [hT] at hinc ⊢
  have k1 : (w.setCell ⟨p, 1, none⟩ (.int .u64 (T.toNat : Int))).heap[p]? = some (.cells #[.slice (some ⟨g, 0, none⟩) R.length cap, .int .u64 (T.toNat : Int)] 70 (0, 0)) := heap_setCell_at (cs := [_, _]) (i := 1) _ h1
  have k2 : (w.setCell ⟨p, 1, none⟩ (.int .u64 (T.toNat : Int))).heap[g]? = some (.cells cur.toArray 9 (0, 0)) := by rw [Below.heap_setCell _ _ _ _ (Ne.symm hpg)]; exact h2
  have hst := (Step.refl (Only E) w o).setCell (a := ⟨p, 1, none⟩) (.int .u64 (T.toNat : Int)) (.inl (by show (o p).1 = E; rw [h6]))
  have d0 : (w.setCell ⟨p, 1, none⟩ (.int .u64 (T.toNat : Int))).cell? ⟨p, 0, none⟩ = some (.slice (some ⟨g, 0, none⟩) N cap) := by rw [cell_of_block (cs := [_, _]) k1 0, ← hN]; rfl
  have d1 : (w.setCell ⟨p, 1, none⟩ (.int .u64 (T.toNat : Int))).cell? ⟨p, 1, none⟩ = some (.int .u64 (T.toNat : Int)) := cell_of_block (cs := [_, _]) k1 1
  have hNi : (0 : Int) < (N : Int) := by omega
  have hleaf := fun W O => rleaf_any ⟨T, 0, 0, []⟩ (by simp) (by simp) (by simp) W O
  have hleafH := hidden hleaf
  have hincH := hidden hinc
  have h3H := hidden h3
  have h10H := hidden h10
  obtain ⟨x0, hx0⟩ : ∃ x0, cur[0]? = some x0 := by
    have : (cur.take R.length)[0]? = (tvs R)[0]? := by rw [h3]
    rw [List.getElem?_take, if_pos (by omega)] at this
    exact ⟨_, this.trans (List.getElem?_eq_getElem (by rw [length_tvs]; omega))⟩
  clear hinc hleaf h3 h10 hT h1 h2
  go_enter Try.func91, Try.ntmps91
  go_wp2_with fail
  rw [hincH.out]
  generalize w.setCell ⟨p, 1, none⟩ (.int .u64 (T.toNat : Int)) = W1 at *
  refine wp_region_need (fun w' => w'.cell? ⟨p, 0, none⟩ = some (.slice (some ⟨g, 0, none⟩) N cap) ∧ w'.cell? ⟨p, 1, none⟩ = some (.int .u64 (T.toNat : Int))) (fun _ => true) (by kernel_rfl) ⟨d0, d1⟩ (fun hHeld => ?_)
  refine wpAnyN_take (i := 0) (v := ?_) rfl (by kernel_rfl) (by kernel_rfl) (by kernel_rfl) (by kernel_rfl) (fun _ _ _ h => h) (Or.inl ⟨by rfl, ?_⟩) (by assumption) ?_
  rotate_left
  · intro w hSw; ((try dsimp only at hSw); go_simp; (try with_reducible rfl))
  simp only [Act.put, List.setIfInBounds_toArray, List.set_cons_zero, List.set_cons_succ]
  refine wpAnyN_take (i := 1) (v := ?_) rfl (by kernel_rfl) (by kernel_rfl) (by kernel_rfl) (by kernel_rfl) (fun _ _ _ h => h) (Or.inl ⟨by rfl, ?_⟩) (by assumption) ?_
  rotate_left
  · intro w hSw; ((try dsimp only at hSw); go_simp; (try with_reducible rfl))
  simp only [Act.put, List.setIfInBounds_toArray, List.set_cons_zero, List.set_cons_succ]
  refine wpAnyN_take (i := 2) (v := ?_) rfl (by kernel_rfl) (by kernel_rfl) (by kernel_rfl) (by kernel_rfl) (fun _ _ _ h => h) (Or.inl ⟨by rfl, ?_⟩) (by assumption) ?_
  rotate_left
  · intro w hSw; ((try dsimp only at hSw); go_simp; (try with_reducible rfl))
  simp only [Act.put, List.setIfInBounds_toArray, List.set_cons_zero, List.set_cons_succ]
  refine wpAnyN_take (i := 3) (v := ?_) rfl (by kernel_rfl) (by kernel_rfl) (by kernel_rfl) (by kernel_rfl) (fun _ _ _ h => h) (Or.inl ⟨by rfl, ?_⟩) (by assumption) ?_
  rotate_left
  · intro w hSw; ((try dsimp only at hSw); go_simp; (try with_reducible rfl))
  simp only [Act.put, List.setIfInBounds_toArray, List.set_cons_zero, List.set_cons_succ]
  refine wpAnyN_take (i := 4) (v := ?_) rfl (by kernel_rfl) (by kernel_rfl) (by kernel_rfl) (by kernel_rfl) (fun _ _ _ h => h) (Or.inl ⟨by rfl, ?_⟩) (by assumption) ?_
  rotate_left
  · intro w hSw; ((try dsimp only at hSw); go_simp; (try with_reducible rfl))
  simp only [Act.put, List.setIfInBounds_toArray, List.set_cons_zero, List.set_cons_succ]
  refine wpAnyN_take (i := 5) (v := ?_) rfl (by kernel_rfl) (by kernel_rfl) (by kernel_rfl) (by kernel_rfl) (fun _ _ _ h => h) (Or.inl ⟨by rfl, ?_⟩) (by assumption) ?_
  rotate_left
  · intro w hSw; ((try dsimp only at hSw); go_simp; (try with_reducible rfl))
  simp only [Act.put, List.setIfInBounds_toArray, List.set_cons_zero, List.set_cons_succ]
  refine wpAnyN_take (i := 6) (v := ?_) rfl (by kernel_rfl) (by kernel_rfl) (by kernel_rfl) (by kernel_rfl) (fun _ _ _ h => h) (Or.inl ⟨by rfl, ?_⟩) (by assumption) ?_
  rotate_left
  · intro w hSw; ((try dsimp only at hSw); go_simp; (try with_reducible rfl))
  simp only [Act.put, List.setIfInBounds_toArray, List.set_cons_zero, List.set_cons_succ]
  refine wpAnyN_take (i := 7) (v := ?_) rfl (by kernel_rfl) (by kernel_rfl) (by kernel_rfl) (by kernel_rfl) (fun _ _ _ h => h) (Or.inl ⟨by rfl, ?_⟩) (by assumption) ?_
  rotate_left
  · intro w hSw; ((try dsimp only at hSw); go_simp; (try with_reducible rfl))
  simp only [Act.put, List.setIfInBounds_toArray, List.set_cons_zero, List.set_cons_succ]
  refine wpAnyN_one (i := 8) rfl (by kernel_rfl) ?_
  go_wp2_with fail
  refine (hleafH.out W1.drew o).mono ?_; rintro e W2 ⟨v2, o2, rfl, hs, rfl⟩
  have hs2 : Step Nobody W1 o W2 o2 := (Step.refl Nobody W1 o).drew.trans hs
  have m1 := (hs2.block p (lt_of_block k1) (fun h => h)).trans k1
  have m2 := (hs2.block g (lt_of_block k2) (fun h => h)).trans k2
  have m6 := (hs2.own p (lt_of_block k1)).trans h6
  have m7 := (hs2.own g (lt_of_block k2)).trans h7
  have hst := hst.trans (hs2.only E)
  have e0 : W2.cell? ⟨p, 0, none⟩ = some (.slice (some ⟨g, 0, none⟩) N cap) := by rw [cell_of_block (cs := [_, _]) m1 0, ← hNH.out]; rfl
  have e1 : W2.cell? ⟨p, 1, none⟩ = some (.int .u64 (T.toNat : Int)) := cell_of_block (cs := [_, _]) m1 1
  have eg : W2.cell? ⟨g, 0, none⟩ = some x0 := by rw [cell_of_block m2 0]; exact hx0
  have fg := free_of_block m2 0
  have hput := RefL.put m1 m2 h3H.out h4 h5 m6 m7 h8 h9 h10H.out 0 (LeafM.page ⟨T, 0, 0, []⟩) (LeafM.length_page (by simp))
  have hss := hst.setCell (a := ⟨g, 0, none⟩) (str (LeafM.page ⟨T, 0, 0, []⟩)) (.inl (by show (o2 g).1 = E; rw [m7]))
  have q0 : (W2.setCell ⟨g, 0, none⟩ (str (LeafM.page ⟨T, 0, 0, []⟩))).cell? ⟨p, 0, none⟩ = some (.slice (some ⟨g, 0, none⟩) N cap) := by rw [World.cell?_setCell_other _ _ _ _ (by intro h; exact hpg (congrArg Addr.block h).symm)]; exact e0
  have q1 : (W2.setCell ⟨g, 0, none⟩ (str (LeafM.page ⟨T, 0, 0, []⟩))).cell? ⟨p, 1, none⟩ = some (.int .u64 (T.toNat : Int)) := by rw [World.cell?_setCell_other _ _ _ _ (by intro h; exact hpg (congrArg Addr.block h).symm)]; exact e1
  have hF := hidden (And.intro hss hput)
  have hQ := hidden (And.intro q0 q1)
  simp only [str] at hF hQ ⊢
  obtain ⟨pg, hpgE⟩ : ∃ pg, LeafM.page ⟨T, 0, 0, []⟩ = pg := ⟨_, rfl⟩
  rw [hpgE] at hF hQ ⊢
  have hpgH := hidden hpgE
  clear hpgE
  clear hss hput q0 q1 hs hs2 m1 m2 m6 m7 hst k1 k2 hx0 h3H h10H hleafH hincH c0 c1 f1 d0 d1 hHeld
  go_wp2_with fail
  refine ⟨fun _ => ⟨e0, e1⟩, ?_⟩
  refine wpAnyN_one (i := 9) rfl (by kernel_rfl) ?_
  go_wp2_with fail
  refine ⟨fun _ => ⟨e0, e1⟩, ?_⟩
  refine wpAnyN_one (i := 10) rfl (by kernel_rfl) ?_
  go_wp2_with fail
  refine ⟨fun _ => hQ.out, ?_⟩
  refine wpAnyN_done (by kernel_rfl) ?_ _
  clear e0 e1 eg fg
  go_wp2_with fail
  (try simp only [Exit.inBlock, Exit.then]); refine bodyPost_ret (results_none rfl _ _ _) rfl ?_
  exact ⟨_, o2, rfl, hF.out.1, rfl, by unfold LogM.headPages; rw [hpgH.out]; exact hF.out.2⟩
set_option maxRecDepth 100000 in
set_option maxHeartbeats 800000 in
theorem rreset_any {w : World} {o : Own} {E p : Nat} {R : List (List UInt8)} {S : BitVec 64} (h : RefL w o E p R S) (hE : E ≠ 0) :
    Calls Try.prog 44 #[.pointer (some ⟨p, 0, none⟩)] w (Ret (Only E) w o fun v w' o' => v = .int .i64 0 ∧ RefL w' o' E p (LogM.headPages R (S + 1#64)) (S + 1#64)) := by
  have hh := rhead_any h hE
  clear h
  go_enter Try.func44, Try.ntmps44
  go_wp2_with fail
  refine hh.mono ?_; rintro e w1 ⟨v1, o1, rfl, hs, rfl, hr⟩
  go_wp2_with fail
  go_ret
  exact ⟨_, o1, rfl, hs, rfl, hr⟩
end Go.Proofs.YtfgggkheadfiaaaR
