/- Contracts of the document's own disk: New, Write. -/
import Derived.Test.YtfgggkheadfiaaaRRef07a
namespace Go.Proofs.YtfgggkheadfiaaaR
open Go Go.RowKit
attribute [local go_sem ↓] Go.wp_at_zero Go.wp_at_succ

theorem infR9 : (Try.prog.info? 9).map (fun i => (i.zero.map (fun z => z.cells.toList), i.size, i.bytes)) = some (some [.string ⟨#[]⟩], 1, 16) := by kernel_rfl
theorem zsR9 : (Try.prog.info? 9).map (fun i => (i.zero.map (fun z => z.cells.toList), i.size)) = some (some [.string ⟨#[]⟩], 1) := by kernel_rfl
theorem inf174 : (Try.prog.info? 174).map (fun i => (i.zero.map (fun z => z.cells.toList), i.size, i.bytes)) = some (some [.int .i64 0, .string ⟨#[]⟩], 2, 24) := by kernel_rfl
theorem zs174 : (Try.prog.info? 174).map (fun i => (i.zero.map (fun z => z.cells.toList), i.size)) = some (some [.int .i64 0, .string ⟨#[]⟩], 2) := by kernel_rfl
theorem oneOfStr (l : List UInt8) : (str l).oneCell' = true := rfl
theorem run_make512 (w : World) : (Instr.makeSlice 28 (.int .i64 512) (.int .i64 512)).run Try.prog w = .ok (.slice (some ⟨w.heap.size, 0, none⟩) 512 512) (w.alloc (.cells (bvs DiskM.blank).toArray 5)) := by
  have hmk := run_make_zero (P := Try.prog) w 28 5 _ 1 1 Try.underlying28 inf5 rfl 512 (by omega) (by omega) .i64 .i64
  rw [zeros_bvs] at hmk
  exact hmk
theorem buildSlice41 (w : World) (l : List UInt8) : (Instr.buildSlice 41 1 #[(0, str l)]).run Try.prog w = .ok (.slice (some ⟨w.heap.size, 0, none⟩) 1 1) (w.alloc (.cells #[str l] 9)) :=
  run_buildSlice_one w 41 9 [.string ⟨#[]⟩] (str l) [str l] Try.underlying41 zsR9 rfl (by simp) (by simp) rfl
theorem buildSlice49 (w : World) (n : Int) (l : List UInt8) : (Instr.buildSlice 49 1 #[(0, .agg #[.int .i64 n, str l])]).run Try.prog w = .ok (.slice (some ⟨w.heap.size, 0, none⟩) 1 1) (w.alloc (.cells #[.int .i64 n, str l] 174)) :=
  run_buildSlice_one w 49 174 [.int .i64 0, .string ⟨#[]⟩] (.agg #[.int .i64 n, str l]) [.int .i64 n, str l] Try.underlying49 zs174 rfl (by simp) (by simp) rfl

theorem exec_convert {P : Program} {a : Act} {op : Oper} {w w' : World} (t u : TypeId) (x : Operand) (ho : op.op = .convert t u x) {v : Value} (h : (convert t u (a.eval x)).run P w = .ok v w') : (execOp a.eval op).run P w = .ok (.value v) w' := by
  unfold execOp
  simp only [ho, Sem.run_bind, h, Result.andThen_ok, Sem.run_pure]
theorem ownsRow_mono {w : World} {base base' e size n : Nat} {v : Value} {xs : List Value} (h : w.ownsRow base e size v n xs) (hb : base' ≤ base) : w.ownsRow base' e size v n xs := by
  refine ⟨h.1, ?_⟩
  rcases h.2 with hn | ⟨g, cap, cur, hv, hg, rest⟩
  · exact .inl hn
  · exact .inr ⟨g, cap, cur, hv, by omega, rest⟩
/-- Own of the new object. -/
def newOwn (o : Own) (n p E : Nat) (pv : Value) : Own := fun k => if k < n then o k else if k = p then (E, 0) else if pv.ownBlock = some k then (E, 1) else (0, 0)

set_option maxRecDepth 100000 in
set_option maxHeartbeats 1600000 in
theorem rnew_any (w : World) (o : Own) (E n : Nat) (h1 : 1 ≤ n) (h2 : n ≤ 4096) :
    Calls Try.prog 33 #[.int .i64 (n : Int)] w (Ret Nobody w o fun v w' o' => ∃ p, w.heap.size ≤ p ∧ v = .pointer (some ⟨p, 0, none⟩) ∧ RefAt w' o' E p (DiskM.new n)) := by
  have hb0 : Below w.heap.size w (w.alloc (.cells #[.slice none 0 0, .slice none 0 0, .int .i64 (-1), .bool false] 51)) := (Below.refl _ _).alloc (Nat.le_refl _) _
  have hn0 : (w.alloc (.cells #[.slice none 0 0, .slice none 0 0, .int .i64 (-1), .bool false] 51)).heap[w.heap.size]? = some (.cells #[.slice none 0 0, .slice none 0 0, .int .i64 (-1), .bool false] 51 (0, 0)) := heap_alloc_new w _
  go_enter Try.func33, Try.ntmps33
  go_wp2_with fail
  go_loopw [4] (fun i wr => ∃ (k : Nat) (pv : Value), k ≤ n ∧ i = .int .i64 k ∧ wr.heap[w.heap.size]? = some (.cells #[pv, .slice none 0 0, .int .i64 (-1), .bool false] 51 (0, 0)) ∧
      wr.ownsRow (w.heap.size + 1) 9 1 pv k (strs (List.replicate k DiskM.blank)) ∧ Below w.heap.size w wr) (fun i _ => n - (intOf i).toNat)
  case atStart => exact ⟨0, .slice none 0 0, Nat.zero_le _, rfl, hn0, World.ownsRow_nil _ _ _ _, hb0⟩
  case round =>
    obtain ⟨k, pv, hk, rfl, hp, hown, hbel⟩ := hrel
    have c0 := cell_of_block hp 0
    have f0 := free_of_block hp 0
    simp only [List.getElem?_cons_zero] at c0
    have hpl := lt_of_block hp
    by_cases hlt : k < n
    · obtain ⟨pa, pc, rfl⟩ : ∃ a c, pv = .slice a k c := by
        rcases hown.2 with ⟨rfl, rfl⟩ | ⟨g, cap, cur, rfl, _⟩ <;> exact ⟨_, _, rfl⟩
      go_wp2_with fail
      generalize hpv : Value.slice pa k pc = pv at *
      generalize hbk : DiskM.blank = blank at *
      refine wp_region_need (fun w' => w'.cell? ⟨w.heap.size, 0, none⟩ = some pv) (fun i => decide (i < 11)) (by kernel_rfl) c0 (fun hHeld => ?_)
      have c0d : wr.drew.cell? ⟨w.heap.size, 0, none⟩ = some pv := hHeld
      refine wpAnyN_take (i := 0) (v := ?_) rfl (by kernel_rfl) (by kernel_rfl) (by kernel_rfl) (by kernel_rfl) (fun _ _ _ h => h) (Or.inl ⟨by rfl, ?_⟩) (by assumption) ?_
      rotate_left
      · intro w hSw; ((try dsimp only at hSw); go_simp; (try with_reducible rfl))
      simp only [Act.put, List.setIfInBounds_toArray, List.set_cons_zero, List.set_cons_succ]
      refine wpAnyN_take (i := 1) (v := ?_) rfl (by kernel_rfl) (by kernel_rfl) (by kernel_rfl) (by kernel_rfl) (fun _ _ _ h => h) (Or.inl ⟨by rfl, ?_⟩) (by assumption) ?_
      rotate_left
      · intro w hSw; ((try dsimp only at hSw); go_simp; (try with_reducible rfl))
      simp only [Act.put, List.setIfInBounds_toArray, List.set_cons_zero, List.set_cons_succ]
      refine wpAnyN_take (i := 2) (v := ?_) rfl (by kernel_rfl) (by kernel_rfl) (by kernel_rfl) (by kernel_rfl) (fun _ _ _ h => h) (Or.inl ⟨by rfl, ?_⟩) (by assumption) ?_
      rotate_left
      · intro w hSw; ((try dsimp only at hSw); go_simp; (try with_reducible rfl))
      simp only [Act.put, List.setIfInBounds_toArray, List.set_cons_zero, List.set_cons_succ]
      refine wpAnyN_take (i := 3) (v := ?_) rfl (by kernel_rfl) (by kernel_rfl) (by kernel_rfl) (by kernel_rfl) (fun _ _ _ h => h) (Or.inl ⟨by rfl, ?_⟩) (by assumption) ?_
      rotate_left
      · intro w hSw; ((try dsimp only at hSw); go_simp; (try with_reducible rfl))
      simp only [Act.put, List.setIfInBounds_toArray, List.set_cons_zero, List.set_cons_succ]
      refine wpAnyN_take (i := 4) (v := ?_) rfl (by kernel_rfl) (by kernel_rfl) (by kernel_rfl) (by kernel_rfl) (fun _ _ _ h => h) (Or.inl ⟨by rfl, ?_⟩) (by assumption) ?_
      rotate_left
      · intro w hSw; ((try dsimp only at hSw); go_simp; (try with_reducible rfl))
      simp only [Act.put, List.setIfInBounds_toArray, List.set_cons_zero, List.set_cons_succ]
      have hmk := run_make512 wr.drew
      rw [hbk] at hmk
      refine wpAnyN_one (i := 5) rfl (by kernel_rfl) ?_
      refine wpList_run rfl (exec_makeSlice 28 (.const (.int .i64 512)) (.const (.int .i64 512)) rfl hmk) ?_
      refine wpList_nil ?_
      simp only [Act.put, List.setIfInBounds_toArray, List.set_cons_zero, List.set_cons_succ]
      have hbd : Below w.heap.size w wr.drew := ⟨hbel.os, hbel.tape, hbel.output, hbel.size, hbel.block⟩
      have hb1 := hbd.alloc hbd.size (.cells (bvs blank).toArray 5)
      have hby : Bytes (wr.drew.alloc (.cells (bvs blank).toArray 5)) (tagAt o wr.drew.heap.size (0, 0)) (.slice (some ⟨wr.drew.heap.size, 0, none⟩) 512 512) blank := by
        rw [← hbk]; exact bytes_zeros wr.drew o 512 (by omega)
      have hp1 : (wr.drew.alloc (.cells (bvs blank).toArray 5)).heap[w.heap.size]? = some (.cells #[pv, .slice none 0 0, .int .i64 (-1), .bool false] 51 (0, 0)) := by rw [Below.heap_alloc wr.drew _ _ hpl]; exact hp
      have hown1 := World.ownsRow.alloc (w := wr.drew) hown (.cells (bvs blank).toArray 5)
      have hsz1 : (wr.drew.alloc (.cells (bvs blank).toArray 5)).heap.size = wr.heap.size + 1 := by simp
      have c01 := cell_of_block hp1 0
      simp only [List.getElem?_cons_zero] at c01
      refine ⟨fun _ => c01, ?_⟩
      have hcv := conv_string hby
      clear hmk hby
      generalize hW1 : wr.drew.alloc (.cells (bvs blank).toArray 5) = W1 at *
      clear hW1
      refine wpAnyN_one (i := 6) rfl (by kernel_rfl) ?_
      refine wpList_run rfl (exec_convert 28 9 (.tmp 17) rfl hcv) ?_
      refine wpList_nil ?_
      simp only [Act.put, List.setIfInBounds_toArray, List.set_cons_zero, List.set_cons_succ]
      refine ⟨fun _ => c01, ?_⟩
      have hb2 := hb1.alloc hb1.size (.cells #[str blank] 9)
      have hp2 : (W1.alloc (.cells #[str blank] 9)).heap[w.heap.size]? = some (.cells #[pv, .slice none 0 0, .int .i64 (-1), .bool false] 51 (0, 0)) := by rw [Below.heap_alloc _ _ _ (by omega)]; exact hp1
      have hown2 := hown1.alloc (.cells #[str blank] 9)
      have c02 := cell_of_block hp2 0
      simp only [List.getElem?_cons_zero] at c02
      have hnew : (W1.alloc (.cells #[str blank] 9)).heap[W1.heap.size]? = some (.cells [str blank].toArray 9 (0, 0)) := heap_alloc_new W1 _
      refine wpAnyN_one (i := 7) rfl (by kernel_rfl) ?_
      refine wpList_run rfl (exec_buildSlice 41 1 #[(0, .tmp 18)] rfl #[(0, str blank)] rfl (buildSlice41 W1 blank)) ?_
      refine wpList_nil ?_
      simp only [Act.put, List.setIfInBounds_toArray, List.set_cons_zero, List.set_cons_succ]
      refine ⟨fun _ => c02, ?_⟩
      have hsz2 : (W1.alloc (.cells #[str blank] 9)).heap.size = W1.heap.size + 1 := by simp
      generalize hW2 : W1.alloc (.cells #[str blank] 9) = W2 at *
      clear hW2
      obtain ⟨g, cap, W3, hrun, hown3, hgrow, hat, hlt3⟩ := run_append_row (P := Try.prog) W2 41 41 9 Try.underlying41 infR9 rfl (by omega) (by omega) pv k (strs (List.replicate k blank)) hown2 W1.heap.size 0 1 1
        [str blank] rfl (range_whole hnew) (one_cons rfl (by simp)) (by omega) (by omega) (by omega)
      have hb3 : Below w.heap.size w W3 := hb2.grown hgrow hb2.size (fun k hk => by have := (hown2.lt k hk).1; omega)
      have hp3 : W3.heap[w.heap.size]? = some (.cells [pv, .slice none 0 0, .int .i64 (-1), .bool false].toArray 51 (0, 0)) := by
        rw [hgrow.block _ (by omega) (by intro hx; have := (hown2.lt _ hx.symm).1; omega)]; exact hp2
      have hown3' : W3.ownsRow (w.heap.size + 1) 9 1 (.slice (some ⟨g, 0, none⟩) (k + 1) cap) (k + 1) (strs (List.replicate (k + 1) blank)) := by
        rw [List.replicate_succ', strs, List.map_append]; exact hown3
      have hgp : w.heap.size + 1 ≤ g := (hown3'.lt g rfl).1
      have c03 := cell_of_block hp3 0
      simp only [List.getElem?_cons_zero] at c03
      have f03 := free_of_block hp3 0
      have hp4 := heap_setCell_at (i := 0) (.slice (some ⟨g, 0, none⟩) (k + 1) cap) hp3
      have hown4 := ownsRow_setCell_other hown3' (a := ⟨w.heap.size, 0, none⟩) (by simp [Value.ownBlock]; omega) (.slice (some ⟨g, 0, none⟩) (k + 1) cap)
      have hb4 : Below w.heap.size w (W3.setCell ⟨w.heap.size, 0, none⟩ (.slice (some ⟨g, 0, none⟩) (k + 1) cap)) := hb3.setCell (Nat.le_refl _) _
      refine wpAnyN_one (i := 8) rfl (by kernel_rfl) ?_
      refine wpList_run rfl (exec_append (.tmp 16) (.tmp 19) 41 41 rfl hrun) ?_
      refine wpList_nil ?_
      simp only [Act.put, List.setIfInBounds_toArray, List.set_cons_zero, List.set_cons_succ]
      refine ⟨fun _ => c03, ?_⟩
      clear hrun hown3 hown3' hown2 hown1 hown hp hp1 hp2 c01 c02 hb1 hb2 hbd hb3
      refine wpAnyN_one (i := 9) rfl (by kernel_rfl) ?_
      go_wp2_with fail
      refine ⟨fun _ => c03, ?_⟩
      refine wpAnyN_one (i := 10) rfl (by kernel_rfl) ?_
      go_wp2_with fail
      refine ⟨fun _ => c03, ?_⟩
      refine wpAnyN_one (i := 11) rfl (by kernel_rfl) ?_
      go_wp2_with fail
      refine ⟨fun h => by simp at h, ?_⟩
      refine wpAnyN_done (by kernel_rfl) ?_ _
      go_wp2_with fail
      go_roundw
      case rel => exact ⟨k + 1, _, hlt, by go_num, hp4, by rw [hbk]; exact hown4, hb4⟩
      case measure => simp [intOf]; omega
    · have hk' : k = n := by omega
      subst hk'
      go_wp2
      go_ret
      refine ⟨_, newOwn o w.heap.size w.heap.size E pv, rfl, ⟨hbel.os, hbel.tape, hbel.output, hbel.size, fun j hj => if_pos hj, fun j hj _ => hbel.block j hj⟩, w.heap.size, Nat.le_refl _, rfl, pv, .slice none 0 0, ?_, ?_, World.ownsRow_nil _ _ _ _, ?_, ?_, ?_, ?_⟩
      · exact hp
      · simp only [DiskM.new, List.length_replicate]; exact ownsRow_mono hown (Nat.zero_le _)
      · simp [newOwn]
      · intro j hj
        have := (hown.lt j hj).1
        simp only [newOwn]
        rw [if_neg (by omega), if_neg (by omega), if_pos hj]
      · intro j hj; simp [Value.ownBlock] at hj
      · refine ⟨by simpa [DiskM.new] using h1, by simpa [DiskM.new] using h2, ?_, by simp [DiskM.new], by simp [DiskM.new], by simp [DiskM.new]⟩
        intro p hp
        simp only [DiskM.new] at hp
        rw [List.eq_of_mem_replicate hp]; exact length_blank

/-- The last write of the row has come. -/
theorem RefAt.pushed {w' : World} {o' : Own} {E p : Nat} {d : DiskM} {g cap : Nat} {pv rv : Value} {at' : Nat} {l : List UInt8} (hwf : d.wf) (ha : at' < d.pages.length) (hl : l.length = 512)
    (hp : w'.heap[p]? = some (.cells #[pv, rv, .int .i64 d.left, .bool d.dead] 51 (0, 0)))
    (hpg : w'.ownsRow 0 9 1 pv d.pages.length (strs d.pages))
    (hown : w'.ownsRow 0 174 2 (.slice (some ⟨g, 0, none⟩) (d.row.length + 1) cap) (d.row.length + 1) (refCells d.row ++ [.int .i64 (at' : Int), str l]))
    (op : o' p = (E, 0)) (ol : ∀ k, pv.ownBlock = some k → o' k = (E, 1)) (og : o' g = (E, 2)) :
    RefAt (w'.setCell ⟨p, 1, none⟩ (.slice (some ⟨g, 0, none⟩) (d.row.length + 1) cap)) o' E p { d with row := d.row ++ [(at', l)] } := by
  refine ⟨pv, .slice (some ⟨g, 0, none⟩) (d.row.length + 1) cap, heap_setCell_at _ hp, ?_, ?_, op, ol, ?_, ?_⟩
  · refine ownsRow_same hpg fun k hk => Below.heap_setCell _ _ _ _ ?_
    rintro rfl; have := ol _ hk; rw [op] at this; simp at this
  · have : (d.row ++ [(at', l)]).length = d.row.length + 1 := by simp
    rw [this, refCells_snoc]
    refine ownsRow_same hown fun k hk => Below.heap_setCell _ _ _ _ ?_
    simp only [Value.ownBlock, Option.some.injEq] at hk
    subst hk
    rintro rfl; rw [op] at og; simp at og
  · intro k hk
    simp only [Value.ownBlock, Option.some.injEq] at hk
    subst hk; exact og
  · obtain ⟨h1, h2, h3, h4, h5, h6⟩ := hwf
    refine ⟨h1, h2, h3, ?_, h5, h6⟩
    intro x hx
    rcases List.mem_append.1 hx with hx | hx
    · exact h4 x hx
    · simp only [List.mem_singleton] at hx; subst hx; exact ⟨ha, hl⟩

/-- The append of Write. -/
theorem rpush_run {w w1 : World} {o o1 : Own} {E p : Nat} {d : DiskM} {pv rv : Value} (hs1 : Step (Only E) w o w1 o1)
    (hp : w1.heap[p]? = some (.cells #[pv, rv, .int .i64 d.left, .bool d.dead] 51 (0, 0))) (hl : w1.ownsRow 0 9 1 pv d.pages.length (strs d.pages)) (hr : w1.ownsRow 0 174 2 rv d.row.length (refCells d.row))
    (op : o1 p = (E, 0)) (ol : ∀ k, pv.ownBlock = some k → o1 k = (E, 1)) (orr : ∀ k, rv.ownBlock = some k → o1 k = (E, 2)) (hrow : d.row.length ≤ 1000000) (n : Nat) (l : List UInt8) :
    ∃ g cap w3, Hid ((Builtin.append_ #[49, 49] 49 #[rv, .slice (some ⟨w1.heap.size, 0, none⟩) 1 1]).run Try.prog (w1.alloc (.cells #[.int .i64 (n : Int), .string ⟨l.toArray⟩] 174)) = .ok (.slice (some ⟨g, 0, none⟩) (d.row.length + 1) cap) w3) ∧
      Step (Only E) w o w3 (tagAt o1 g (E, 2)) ∧ w3.heap[p]? = some (.cells #[pv, rv, .int .i64 d.left, .bool d.dead] 51 (0, 0)) ∧ w3.ownsRow 0 9 1 pv d.pages.length (strs d.pages) ∧
      w3.ownsRow 0 174 2 (.slice (some ⟨g, 0, none⟩) (d.row.length + 1) cap) (d.row.length + 1) (refCells d.row ++ [.int .i64 (n : Int), str l]) ∧
      tagAt o1 g (E, 2) p = (E, 0) ∧ (∀ k, pv.ownBlock = some k → tagAt o1 g (E, 2) k = (E, 1)) ∧ tagAt o1 g (E, 2) g = (E, 2) := by
  have hpl := lt_of_block hp
  have hW : Step (Only E) w o (w1.alloc (.cells [.int .i64 (n : Int), str l].toArray 174)) o1 := hs1.alloc' _
  have hnew : (w1.alloc (.cells [.int .i64 (n : Int), str l].toArray 174)).heap[w1.heap.size]? = some (.cells [.int .i64 (n : Int), str l].toArray 174 (0, 0)) := heap_alloc_new w1 _
  have hold : ∀ k, k < w1.heap.size → (w1.alloc (.cells [.int .i64 (n : Int), str l].toArray 174)).heap[k]? = w1.heap[k]? := fun k hk => Below.heap_alloc w1 _ k hk
  have hownW := ownsRow_same hr (fun k hk => hold k (hr.lt k hk).2)
  have hlW := ownsRow_same hl (fun k hk => hold k (hl.lt k hk).2)
  have hWs : (w1.alloc (.cells [.int .i64 (n : Int), str l].toArray 174)).heap.size = w1.heap.size + 1 := by simp
  have hsame : (w1.alloc (.cells #[.int .i64 (n : Int), .string ⟨l.toArray⟩] 174)) = (w1.alloc (.cells [.int .i64 (n : Int), str l].toArray 174)) := rfl
  rw [hsame]
  generalize (w1.alloc (.cells [.int .i64 (n : Int), str l].toArray 174)) = W at *
  obtain ⟨g, cap, w3, hrun, hown3, hgrow, hat, hlt⟩ := run_append_row (P := Try.prog) W 49 49 174 Try.underlying49 inf174 rfl (by omega) (Nat.zero_le _) rv d.row.length (refCells d.row) hownW w1.heap.size 0 1 1
    [.int .i64 (n : Int), str l] rfl (range_whole hnew) (one_cons rfl (one_cons rfl (by simp))) (by omega) (by omega) (by omega)
  have hgt : o1 g = (E, 2) ∨ W.heap.size ≤ g := by
    rcases hat with hat | hat
    · exact .inl (orr g hat)
    · exact .inr (by omega)
  have hgp : p ≠ g := by
    rintro rfl
    rcases hgt with h1 | h1
    · rw [op] at h1; simp at h1
    · omega
  have hgl : ∀ k, pv.ownBlock = some k → k ≠ g := by
    rintro k hk rfl
    have := (hl.lt k hk).2
    rcases hgt with h1 | h1
    · rw [ol k hk] at h1; simp at h1
    · omega
  refine ⟨g, cap, w3, hrun, hW.grown hgrow (fun k hk => .inl (by rw [orr k hk]; rfl)) g (E, 2) hgt, ?_, ?_, hown3, ?_, ?_, tagAt_same _ _ _⟩
  · rw [hgrow.block p (by omega) (by intro hx; have := orr p hx.symm; rw [op] at this; simp at this), hold p hpl]; exact hp
  · refine ownsRow_same hlW fun k hk => hgrow.block k (by have := (hl.lt k hk).2; omega) ?_
    intro hx; have := orr k hx.symm; rw [ol k hk] at this; simp at this
  · rw [tagAt_other _ _ hgp]; exact op
  · intro k hk; rw [tagAt_other _ _ (hgl k hk)]; exact ol k hk

theorem counts_is {w : World} {o : Own} {E p : Nat} {d d1 : DiskM} {e1 : Int} (h : RefAt w o E p d) (he : Hid (d.counted 0 = (d1, e1))) :
    Calls Try.prog 113 #[.pointer (some ⟨p, 0, none⟩)] w (Ret (Only E) w o fun v w' o' => v = .bool (decide (e1 = 0)) ∧ RefAt w' o' E p d1) := by
  have := counts_any h
  rw [he.out] at this; exact this
theorem counted_nine (d : DiskM) (h : (d.counted 0).2 ≠ 0) : (d.counted 0).2 = 9 := by
  unfold DiskM.counted at *
  split at h
  · rename_i hx; simp at h
  · split at h
    · rename_i h1 h2; rw [if_neg h1, if_pos h2]
    · simp at h

set_option maxRecDepth 100000 in
set_option maxHeartbeats 1600000 in
theorem rwrite_any {w : World} {o : Own} {E p : Nat} {d : DiskM} (h : RefAt w o E p d) (at' : Int) (l : List UInt8) (_hll : l.length ≤ 1000000) (hrow : d.row.length ≤ 1000000) :
    Calls Try.prog 72 #[.pointer (some ⟨p, 0, none⟩), .int .i64 at', str l] w (Ret (Only E) w o fun v w' o' => v = .int .i64 (d.write at' l).2 ∧ RefAt w' o' E p (d.write at' l).1) := by
  obtain ⟨hw1, hw2, -, -, -, -⟩ := h.wf
  obtain ⟨pv, rv, ⟨c0, c1, c2, c3⟩, ⟨f1, f2, f3⟩, hl, hr, op, ol, orr⟩ := h.open
  obtain ⟨pg, pc, rfl⟩ := row_at hl (by omega)
  clear op ol orr hl hr c1 c2 f1 f2 f3
  have hlen : (({ data := l.toArray } : ByteArray).size : Int) = (l.length : Int) := by simp [ByteArray.size]
  by_cases hd : d.dead = true
  · rw [hd] at c3
    have hE : d.write at' l = (d, 9) := by simp [DiskM.write, DiskM.counted, DiskM.asked, hd]
    rw [hE]
    go_enter Try.func72, Try.ntmps72
    go_wp2
    go_ret
    exact ⟨_, o, rfl, Step.refl _ _ _, rfl, h⟩
  · have hd' : d.dead = false := by simpa using hd
    rw [hd'] at c3
    unfold str
    by_cases h1 : at' < 0
    · have hE : d.write at' l = (d, 1) := by simp [DiskM.write, DiskM.counted, DiskM.asked, hd', h1]
      rw [hE]
      go_enter Try.func72, Try.ntmps72
      go_wp2
      go_ret
      exact ⟨_, o, rfl, Step.refl _ _ _, rfl, h⟩
    · by_cases h2 : (d.pages.length : Int) ≤ at'
      · have hE : d.write at' l = (d, 1) := by simp [DiskM.write, DiskM.counted, DiskM.asked, hd', h2]
        rw [hE]
        go_enter Try.func72, Try.ntmps72
        go_wp2
        go_ret
        exact ⟨_, o, rfl, Step.refl _ _ _, rfl, h⟩
      · by_cases h3 : l.length = 512
        · have hE : d.write at' l = if (d.counted 0).2 ≠ 0 then d.counted 0 else ({ (d.counted 0).1 with row := (d.counted 0).1.row ++ [(at'.toNat, l)] }, 0) := by
            simp only [DiskM.write, DiskM.asked, hd', h1, h2, h3]
            simp
          rw [hE]
          obtain ⟨hpg, hrw⟩ := DiskM.counted_same d 0
          have hnine := counted_nine d
          obtain ⟨d1, e1, hc⟩ : ∃ d1 e1, Hid (d.counted 0 = (d1, e1)) := ⟨_, _, rfl⟩
          rw [hc.out] at hpg hrw hnine ⊢
          simp only at hpg hrw hnine ⊢
          obtain ⟨n, rfl⟩ := Int.eq_ofNat_of_zero_le (show 0 ≤ at' by omega)
          have hlenb : ((l.length : Int) != 512) = false := by rw [h3]; rfl
          have H3 := hidden h3
          have ha1 : n < d1.pages.length := by rw [hpg]; omega
          have hrow1 : d1.row.length ≤ 1000000 := by rw [hrw]; exact hrow
          clear hE h3 hpg hrw
          by_cases he : e1 = 0
          · subst he
            simp only [ne_eq, not_true_eq_false, if_false, Int.toNat_natCast]
            go_enter Try.func72, Try.ntmps72
            go_wp2_with (first
              | ((with_reducible refine (counts_is h hc).mono ?_); rintro e w1 ⟨v1, o1, rfl, hs1, rfl, hd1⟩
                 obtain ⟨pv1, rv1, hp1, hl1, hr1, op1, ol1, or1, hwf1⟩ := hd1
                 obtain ⟨g, cap, w3, hrunH, hs3, hp3, hl3, hown3, op3, ol3, og3⟩ := rpush_run hs1 hp1 hl1 hr1 op1 ol1 or1 hrow1 n l
                 have c01 := cell_of_block hp1 1
                 have f03 := free_of_block hp3 1
                 have c03 := cell_of_block hp3 1
                 simp only [List.getElem?_cons_zero, List.getElem?_cons_succ] at c01 c03
                 have hs4 := hs3.setCell (a := ⟨p, 1, none⟩) (.slice (some ⟨g, 0, none⟩) (d1.row.length + 1) cap) (.inl (by rw [op3]; rfl))
                 have hd4 := RefAt.pushed hwf1 ha1 H3.out hp3 hl3 hown3 op3 ol3 og3
                 obtain ⟨ra, rc, rfl⟩ := rrow_form hr1
                 clear hp1 hl1 hr1 op1 ol1 or1 hp3 hl3 hown3 op3 ol3 og3)
              | ((with_reducible apply lit_append); exact hrunH.out; simp only [Act.put, List.setIfInBounds_toArray, List.set_cons_zero, List.set_cons_succ]))
            go_ret
            exact ⟨_, _, rfl, hs4, rfl, hd4⟩
          · rw [if_pos he]
            have he9 := hnine he
            subst he9
            go_enter Try.func72, Try.ntmps72
            go_wp2_with ((with_reducible refine (counts_is h hc).mono ?_); rintro e w1 ⟨v1, o1, rfl, hs1, rfl, hd1⟩)
            go_ret
            exact ⟨_, o1, rfl, hs1, rfl, hd1⟩
        · have hE : d.write at' l = (d, 1) := by
            have ha : d.asked at' l.length = 1 := by simp only [DiskM.asked, hd']; rw [if_neg (by simp), if_pos (by omega)]
            simp [DiskM.write, DiskM.counted, ha]
          rw [hE]
          have h3' : ((l.length : Int) != 512) = true := by simp; omega
          clear h3
          go_enter Try.func72, Try.ntmps72
          go_wp2
          go_ret
          exact ⟨_, o, rfl, Step.refl _ _ _, rfl, h⟩
end Go.Proofs.YtfgggkheadfiaaaR
