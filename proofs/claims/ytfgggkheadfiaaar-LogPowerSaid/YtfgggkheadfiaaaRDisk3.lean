/- Contracts of the disk: Read. -/
import Derived.Test.YtfgggkheadfiaaaRDisk2
namespace Go.Proofs.YtfgggkheadfiaaaR
open Go Go.RowKit
attribute [local go_sem ↓] Go.wp_at_zero Go.wp_at_succ

theorem zc127 : ((Try.prog.info? 127).bind (·.zero)).map (·.cells) = some zero512.toArray := by kernel_rfl
theorem zc129 : ((Try.prog.info? 129).bind (·.zero)).map (·.cells) = some zero513.toArray := by kernel_rfl
theorem s129 : (Try.prog.info? 129).map (·.size) = some 513 := by kernel_rfl

theorem load127 {w : World} {b off : Nat} {l : List UInt8} (hl : l.length = 512) (hr : w.rangeAt b off (bvs l)) : (loadVar 127 ⟨b, off, none⟩).run Try.prog w = .ok (.agg (bvs l).toArray) w :=
  run_loadVar_mid w b off 127 (bvs l) _ hr Try.underlying127 rfl (by rw [length_bvs, hl]; exact s127)
theorem load129 {w : World} {b off : Nat} {n : Int} {l : List UInt8} (hl : l.length = 512) (hr : w.rangeAt b off (Value.int .i64 n :: bvs l)) : (loadVar 129 ⟨b, off, none⟩).run Try.prog w = .ok (.agg (Value.int .i64 n :: bvs l).toArray) w :=
  run_loadVar_mid w b off 129 _ _ hr Try.underlying129 rfl (by rw [List.length_cons, length_bvs, hl]; exact s129)
theorem exec_store {P : Program} {a : Act} {op : Oper} {w : World} (t : TypeId) (x y : Operand) (ho : op.op = .store t x y) (b o : Nat) (cs : List Value) (hx : a.eval x = .pointer (some ⟨b, o, none⟩)) (hy : a.eval y = .agg cs.toArray)
    (ht : w.there b o cs.length) (hi : (P.info? t).map (·.size) = some cs.length) (h1 : ∀ v ∈ cs, v.oneCell' = true) : (execOp a.eval op).run P w = .ok .skip (w.setCells b o cs) := by
  unfold execOp
  simp only [ho, hx, hy, Instr.storeAt, Instr.sureAddr, Sem.run_bind, Sem.run_pure, Result.andThen_ok]
  rw [run_storeVar_mid w b o t cs.toArray (by simpa using ht) (by simpa using hi) (all_oneCell_toArray h1)]
  simp
theorem wpList_skipped {P : Program} {ops : Array Oper} {Q : Exit → Act → World → Prop} {rest : List Oper} {op : Oper} {a : Act} {w w' : World} (hg : op.guard = none) (hr : (execOp a.eval op).run P w = .ok .skip w')
    (h : wpList P ops Q rest (a.put op.dst undef) w') : wpList P ops Q (op :: rest) a w :=
  wpList_plain hg fun _ hK => by unfold Oper.wp; rw [hr]; exact hK _ _ h

/-- What Read hands out: nil, or new memory of its own. -/
def NewPage (w : World) (w' : World) (o' : Own) (v : Value) (l : List UInt8) : Prop :=
  (v = .slice none 0 0 ∧ l = []) ∨ ∃ b, v = .slice (some ⟨b, 0, none⟩) 512 512 ∧ l.length = 512 ∧ w.heap.size ≤ b ∧ w'.heap[b]? = some (.cells (bvs l).toArray 127 (0, 0)) ∧ o' b = (0, 0)
theorem NewPage.bytes {w w' : World} {o' : Own} {v : Value} {l : List UInt8} (h : NewPage w w' o' v l) : Bytes w' o' v l := by
  rcases h with ⟨rfl, rfl⟩ | ⟨b, rfl, hl, hb, hh, ho⟩
  · exact Bytes.nil _ _
  · exact .inr ⟨b, 0, 512, by rw [hl], by omega, by simp [maxLen], by rw [ho], lt_of_block hh, range_whole hh⟩

set_option maxRecDepth 100000 in
set_option maxHeartbeats 800000 in
theorem read_no {w : World} {o : Own} {D p : Nat} {d : DiskM} (h : DiskAt w o D p d) (at' : Int) (hc : d.asked at' 512 ≠ 0) :
    Calls Try.prog 25 #[.pointer (some ⟨p, 0, none⟩), .int .i64 at'] w fun e w' => e = .returned (.tuple #[.slice none 0 0, .int .i64 (d.asked at' 512)]) ∧ w = w' := by
  obtain ⟨e, he⟩ : ∃ e, Hid (d.asked at' 512 = e) := ⟨_, rfl⟩
  rw [he.out] at hc ⊢
  have hc' : (e != 0) = true := by simpa using hc
  clear hc
  go_enter Try.func25, Try.ntmps25
  go_wp2_with (first | (go_at_call 68; refine (asked_is h _ _ _ he).mono ?_; rintro e w' ⟨rfl, rfl⟩))
  go_ret2
  exact ⟨rfl, rfl⟩
theorem read_nil (w : World) (at' : Int) :
    Calls Try.prog 25 #[.pointer none, .int .i64 at'] w fun e w' => e = .returned (.tuple #[.slice none 0 0, .int .i64 8]) ∧ w = w' := by
  go_enter Try.func25, Try.ntmps25
  go_wp2_with (first | (go_at_call 68; refine (asked_nil _ _ _).mono ?_; rintro e w' ⟨rfl, rfl⟩))
  go_ret2
  exact ⟨rfl, rfl⟩

set_option maxRecDepth 100000 in
set_option maxHeartbeats 1600000 in
theorem read_yes {w : World} {o : Own} {D p : Nat} {d : DiskM} (h : DiskAt w o D p d) (at' : Int) (hc : d.asked at' 512 = 0) (hrow : d.row.length ≤ 1000000) :
    Calls Try.prog 25 #[.pointer (some ⟨p, 0, none⟩), .int .i64 at'] w (Ret Nobody w o fun v w' o' => ∃ b, v = .tuple #[.slice (some ⟨b, 0, none⟩) 512 512, .int .i64 0] ∧ w.heap.size ≤ b ∧ w'.heap[b]? = some (.cells (bvs (d.seen at'.toNat)).toArray 127 (0, 0)) ∧ o' b = (0, 0)) := by
  have hal : 0 ≤ at' ∧ at' < d.pages.length := by
    unfold DiskM.asked at hc
    split at hc
    · cases hc
    · split at hc
      · cases hc
      · rename_i hx; omega
  obtain ⟨a0, a1⟩ := hal
  obtain ⟨n, rfl⟩ := Int.eq_ofNat_of_zero_le a0
  have a1' : n < d.pages.length := by omega
  rw [Int.toNat_natCast]
  have hcH := hidden hc
  clear hc
  obtain ⟨hw1, hw2, hw3, hw4, -, -⟩ := h.wf
  obtain ⟨bl, rv, ⟨c0, c1, c2, c3⟩, ⟨f1, f2, f3⟩, hbl, hown, op, ol, orr⟩ := h.open
  have hpg : (d.pages.getD n []).length = 512 := DiskM.getD_wf hw3 a1'
  have hrng : w.rangeAt bl (n * 512) (bvs (d.pages.getD n [])) := by
    have := range_of_block hbl (n * 512) 512
    rwa [bvs_drop, bvs_take, get_pages _ _ a1' hw3] at this
  have hld := load127 hpg hrng
  have HP := hidden hpg
  clear hpg hrng hw3 op ol orr
  have hpl : p < w.heap.size := h.lt
  obtain ⟨ra, rcap, hrv⟩ := row_form hown
  subst hrv
  generalize hpage : d.pages.getD n [] = page at *
  have hpageH := hidden hpage
  clear hpage
  go_enter Try.func25, Try.ntmps25
  go_wp2_with (first
    | (go_at_call 68; refine (asked_is h _ _ _ hcH).mono ?_; rintro e w' ⟨rfl, rfl⟩)
    | (refine wpList_run rfl (exec_load 127 (.tmp 21) rfl bl (n * 512) rfl hld) ?_; simp only [Act.put, List.setIfInBounds_toArray, List.set_cons_zero, List.set_cons_succ])
    | (refine wpList_run rfl (exec_alloc 127 rfl (run_alloc_zero w 127 zero512.toArray zc127)) ?_; simp only [Act.put, List.setIfInBounds_toArray, List.set_cons_zero, List.set_cons_succ])
    | (refine wpList_skipped rfl (exec_store 127 (.tmp 7) (.tmp 22) rfl w.heap.size 0 (bvs page) rfl rfl (there_of_block (heap_alloc_new w _) 0 _ (by rw [length_bvs, HP.out, length_zero512]; omega)) (by rw [length_bvs, HP.out]; exact s127) (one_bvs _)) ?_
       rw [setCells_alloc_whole _ _ _ _ (by rw [length_bvs, HP.out, List.size_toArray, length_zero512])]))
  go_loopw [28] (fun i wr => ∃ k : Nat, k ≤ d.row.length ∧ i = .int .i64 k ∧ wr.heap[w.heap.size]? = some (.cells (bvs (DiskM.seenIn n page (d.row.take k))).toArray 127 (0, 0)) ∧ (DiskM.seenIn n page (d.row.take k)).length = 512 ∧ Below w.heap.size w wr)
    (fun i _ => d.row.length - (intOf i).toNat)
  case atStart => exact ⟨0, Nat.zero_le _, rfl, heap_alloc_new w _, HP.out, (Below.refl _ w).alloc (Nat.le_refl _) _⟩
  case round =>
    obtain ⟨k, hk, rfl, hB, hBl, hbel⟩ := hrel
    have hBz := lt_of_block hB
    have hBlH := hidden hBl
    clear hBl
    by_cases hlt : k < d.row.length
    · obtain ⟨g, hg, cur, hcur, htk⟩ : ∃ g, ra = some ⟨g, 0, none⟩ ∧ ∃ cur : Array Value, w.heap[g]? = some (.cells cur 129 (0, 0)) ∧ cur.toList.take (d.row.length * 513) = rowCells d.row := by
        rcases hown.2 with ⟨_, h0⟩ | ⟨g, cap, cur, hv, _, hgg, _, _, _, htake⟩
        · omega
        · simp only [Value.slice.injEq] at hv
          exact ⟨g, hv.1, cur, hgg, htake⟩
      subst hg
      have hx := hw4 d.row[k] (List.getElem_mem hlt)
      have hgz := lt_of_block hcur
      have hent : wr.rangeAt g (k * 513) (Value.int .i64 (d.row[k].1 : Int) :: bvs d.row[k].2) := by
        have e1 : wr.heap[g]? = some (.cells cur.toList.toArray 129 (0, 0)) := by rw [hbel.block g hgz]; simpa using hcur
        have := range_of_block e1 (k * 513) 513
        have e2 : (cur.toList.drop (k * 513)).take 513 = ((rowCells d.row).drop (k * 513)).take 513 := by
          rw [← htk, List.drop_take, List.take_take]
          congr 1; omega
        rwa [e2, get_rowCells _ _ hlt (fun x hx => (hw4 x hx).2)] at this
      have hld2 := load129 hx.2 hent
      have hX := hidden hx.2
      have hseen : DiskM.seenIn n page (d.row.take (k + 1)) = if d.row[k].1 = n then d.row[k].2 else DiskM.seenIn n page (d.row.take k) := by
        rw [List.take_succ_eq_append_getElem hlt, DiskM.seenIn, List.foldl_append]
        rfl
      have hseenH := hidden hseen
      clear hseen hx hent htk hcur hw4 hown hw1 hw2
      generalize hrow : d.row[k] = x at *
      obtain ⟨xa, xl⟩ := x
      clear hrow
      simp only at hX hld2 hseenH
      have hnew : (wr.alloc (.cells (Value.int .i64 (xa : Int) :: bvs xl).toArray 129)).heap[wr.heap.size]? = some (.cells (Value.int .i64 (xa : Int) :: bvs xl).toArray 129 (0, 0)) := heap_alloc_new wr _
      have hld3 : (loadVar 127 ⟨wr.heap.size, 1, none⟩).run Try.prog (wr.alloc (.cells (Value.int .i64 (xa : Int) :: bvs xl).toArray 129)) = .ok (.agg (bvs xl).toArray) (wr.alloc (.cells (Value.int .i64 (xa : Int) :: bvs xl).toArray 129)) := by
        refine load127 hX.out ?_
        have := range_of_block hnew 1 512
        have e : ((Value.int .i64 (xa : Int) :: bvs xl).drop 1).take 512 = bvs xl := by rw [List.drop_one, List.tail_cons, List.take_of_length_le (by rw [length_bvs, hX.out]; omega)]
        rwa [e] at this
      have hB2 : (wr.alloc (.cells (Value.int .i64 (xa : Int) :: bvs xl).toArray 129)).heap[w.heap.size]? = some (.cells (bvs (DiskM.seenIn n page (d.row.take k))).toArray 127 (0, 0)) := by rw [Below.heap_alloc _ _ _ hBz]; exact hB
      by_cases heq : xa = n
      · have heqb : ((xa : Int) == (n : Int)) = true := by rw [heq]; simp
        have hS1 : DiskM.seenIn n page (d.row.take (k + 1)) = xl := by rw [hseenH.out, if_pos heq]
        have hS1H := hidden hS1
        clear hS1 heq
        go_wp2_with (first
          | (refine wpList_run rfl (exec_load 129 (.tmp 30) rfl g (k * 513) rfl hld2) ?_; simp only [Act.put, List.setIfInBounds_toArray, List.set_cons_zero, List.set_cons_succ])
          | (refine wpList_run rfl (exec_alloc 129 rfl (run_alloc_zero wr 129 zero513.toArray zc129)) ?_; simp only [Act.put, List.setIfInBounds_toArray, List.set_cons_zero, List.set_cons_succ])
          | (refine wpList_skipped rfl (exec_store 129 (.tmp 9) (.tmp 31) rfl wr.heap.size 0 (Value.int .i64 (xa : Int) :: bvs xl) rfl rfl (there_of_block (heap_alloc_new wr _) 0 _ (by rw [List.length_cons, length_bvs, hX.out, length_zero513]; omega)) (by rw [List.length_cons, length_bvs, hX.out]; exact s129) (one_cons rfl (one_bvs _))) ?_
             rw [setCells_alloc_whole _ _ _ _ (by rw [List.length_cons, length_bvs, hX.out, List.size_toArray, length_zero513])])
          | (refine wpList_run rfl (exec_load 127 (.tmp 36) rfl wr.heap.size 1 rfl hld3) ?_; simp only [Act.put, List.setIfInBounds_toArray, List.set_cons_zero, List.set_cons_succ])
          | (refine wpList_skipped rfl (exec_store 127 (.tmp 7) (.tmp 37) rfl w.heap.size 0 (bvs xl) rfl rfl (there_of_block hB2 0 _ (by rw [length_bvs, length_bvs, hX.out, hBlH.out]; omega)) (by rw [length_bvs, hX.out]; exact s127) (one_bvs _)) ?_; simp only [Act.put]))
        go_roundw
        case rel =>
          refine ⟨k + 1, hlt, by go_num, ?_, ?_, ?_⟩
          · rw [hS1H.out]
            have := heap_setCells_same w.heap.size 127 (bvs xl) 0 _ _ hB2 (by rw [length_bvs, length_bvs, hX.out, hBlH.out]; omega)
            rw [this, List.take_zero, List.nil_append, List.drop_eq_nil_of_le (by rw [length_bvs, length_bvs, hX.out, hBlH.out]; omega), List.append_nil]
          · rw [hS1H.out]; exact hX.out
          · have h1 := hbel.alloc hbel.size (.cells (Value.int .i64 (xa : Int) :: bvs xl).toArray 129)
            exact Step.below ((((Step.refl Nobody w o).trans ⟨h1.os, h1.tape, h1.output, h1.size, fun _ _ => rfl, fun k hk _ => h1.block k hk⟩)).setCells w.heap.size 0 (bvs xl) (.inr (Nat.le_refl _)))
        case measure => simp [intOf]; omega
      · have heqb : ((xa : Int) == (n : Int)) = false := by simp; omega
        have hS1 : DiskM.seenIn n page (d.row.take (k + 1)) = DiskM.seenIn n page (d.row.take k) := by rw [hseenH.out, if_neg heq]
        have hS1H := hidden hS1
        clear hS1 heq
        go_wp2_with (first
          | (refine wpList_run rfl (exec_load 129 (.tmp 30) rfl g (k * 513) rfl hld2) ?_; simp only [Act.put, List.setIfInBounds_toArray, List.set_cons_zero, List.set_cons_succ])
          | (refine wpList_run rfl (exec_alloc 129 rfl (run_alloc_zero wr 129 zero513.toArray zc129)) ?_; simp only [Act.put, List.setIfInBounds_toArray, List.set_cons_zero, List.set_cons_succ])
          | (refine wpList_skipped rfl (exec_store 129 (.tmp 9) (.tmp 31) rfl wr.heap.size 0 (Value.int .i64 (xa : Int) :: bvs xl) rfl rfl (there_of_block (heap_alloc_new wr _) 0 _ (by rw [List.length_cons, length_bvs, hX.out, length_zero513]; omega)) (by rw [List.length_cons, length_bvs, hX.out]; exact s129) (one_cons rfl (one_bvs _))) ?_
             rw [setCells_alloc_whole _ _ _ _ (by rw [List.length_cons, length_bvs, hX.out, List.size_toArray, length_zero513])]))
        go_roundw
        case rel => exact ⟨k + 1, hlt, by go_num, by rw [hS1H.out]; exact hB2, by rw [hS1H.out]; exact hBlH.out, hbel.alloc hbel.size _⟩
        case measure => simp [intOf]; omega
    · go_wp2
      go_ret2
      refine ⟨_, tagAt o w.heap.size (0, 0), rfl, ?_, w.heap.size, rfl, Nat.le_refl _, ?_, tagAt_same _ _ _⟩
      · exact ⟨hbel.os, hbel.tape, hbel.output, hbel.size, fun k hk => tagAt_other _ _ (by omega), fun k hk _ => hbel.block k hk⟩
      · have : d.row.take k = d.row := List.take_of_length_le (by omega)
        rw [this] at hB
        rw [hB]; unfold DiskM.seen; rw [hpageH.out]

theorem read_any {w : World} {o : Own} {D p : Nat} {d : DiskM} (h : DiskAt w o D p d) (at' : Int) (hrow : d.row.length ≤ 1000000) :
    Calls Try.prog 25 #[.pointer (some ⟨p, 0, none⟩), .int .i64 at'] w (Ret Nobody w o fun v w' o' => ∃ vb, v = .tuple #[vb, .int .i64 (d.read at').2] ∧ NewPage w w' o' vb (d.read at').1) := by
  by_cases hc : d.asked at' 512 = 0
  · refine (read_yes h at' hc hrow).mono ?_
    rintro e w' ⟨v, o', rfl, hs, b, rfl, hb, hh, ho⟩
    have hl : (d.seen at'.toNat).length = 512 := by
      have hpos : 0 ≤ at' ∧ at' < d.pages.length := by
        unfold DiskM.asked at hc
        split at hc
        · cases hc
        · split at hc
          · cases hc
          · rename_i hx; omega
      obtain ⟨hw1, hw2, hw3, hw4, -, -⟩ := h.wf
      have : ∀ (row : List (Nat × List UInt8)) (q : List UInt8), q.length = 512 → (∀ x ∈ row, x.2.length = 512) → (DiskM.seenIn at'.toNat q row).length = 512 := by
        intro row
        induction row with
        | nil => intro q hq _; exact hq
        | cons x r ih =>
          intro q hq hx
          refine ih _ ?_ (fun y hy => hx y (by simp [hy]))
          dsimp only
          split
          · exact hx x (by simp)
          · exact hq
      exact this _ _ (DiskM.getD_wf hw3 (by omega)) (fun x hx => (hw4 x hx).2)
    exact ⟨_, o', rfl, hs, _, by simp [DiskM.read, hc], .inr ⟨b, rfl, by simpa [DiskM.read, hc] using hl, hb, by simpa [DiskM.read, hc] using hh, ho⟩⟩
  · refine (read_no h at' hc).mono ?_
    rintro e w' ⟨rfl, rfl⟩
    exact ⟨_, o, rfl, Step.refl _ _ _, _, by simp [DiskM.read, hc], .inl ⟨rfl, by simp [DiskM.read, hc]⟩⟩
end Go.Proofs.YtfgggkheadfiaaaR
