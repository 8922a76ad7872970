/- Contracts of the document's own disk: New, Write. -/
import Derived.Test.YtfgggkheadfiaaaRPg8
namespace Go.Proofs.YtfgggkheadfiaaaR
open Go Go.RowKit
attribute [local go_sem ↓] Go.wp_at_zero Go.wp_at_succ

theorem infR9 : (Try.prog.info? 9).map (fun i => (i.zero.map (fun z => z.cells.toList), i.size, i.bytes)) = some (some [.string ⟨#[]⟩], 1, 16) := by kernel_rfl
theorem zsR9 : (Try.prog.info? 9).map (fun i => (i.zero.map (fun z => z.cells.toList), i.size)) = some (some [.string ⟨#[]⟩], 1) := by kernel_rfl
theorem inf174 : (Try.prog.info? 174).map (fun i => (i.zero.map (fun z => z.cells.toList), i.size, i.bytes)) = some (some [.int .i64 0, .string ⟨#[]⟩], 2, 24) := by kernel_rfl
theorem zs174 : (Try.prog.info? 174).map (fun i => (i.zero.map (fun z => z.cells.toList), i.size)) = some (some [.int .i64 0, .string ⟨#[]⟩], 2) := by kernel_rfl
theorem oneOfStr (l : List UInt8) : (str l).oneCell' = true := rfl
theorem run_make512 (w : World) : (Instr.makeSlice 28 (.int .i64 512) (.int .i64 512)).run Try.prog w = .ok (.slice (some ⟨w.heap.size, 0, none⟩) 512 512) (w.alloc (.cells (bvs DiskM.blank).toArray 5)) := by
  have hmk := run_make_zero (P := Try.prog) w 28 5 _ 1 1 Try.underlying28 inf5 rfl 512 (by omega) (by omega) .i64 .i64
  rw [zeros_bvs] at hmk
  exact hmk
theorem buildSlice41 (w : World) (l : List UInt8) : (Instr.buildSlice 41 1 #[(0, str l)]).run Try.prog w = .ok (.slice (some ⟨w.heap.size, 0, none⟩) 1 1) (w.alloc (.cells #[str l] 9)) :=
  run_buildSlice_one w 41 9 [.string ⟨#[]⟩] (str l) [str l] Try.underlying41 zsR9 rfl (by simp) (by simp) rfl
theorem buildSlice49 (w : World) (n : Int) (l : List UInt8) : (Instr.buildSlice 49 1 #[(0, .agg #[.int .i64 n, str l])]).run Try.prog w = .ok (.slice (some ⟨w.heap.size, 0, none⟩) 1 1) (w.alloc (.cells #[.int .i64 n, str l] 174)) :=
  run_buildSlice_one w 49 174 [.int .i64 0, .string ⟨#[]⟩] (.agg #[.int .i64 n, str l]) [.int .i64 n, str l] Try.underlying49 zs174 rfl (by simp) (by simp) rfl

theorem exec_convert {P : Program} {a : Act} {op : Oper} {w w' : World} (t u : TypeId) (x : Operand) (ho : op.op = .convert t u x) {v : Value} (h : (convert t u (a.eval x)).run P w = .ok v w') : (execOp a.eval op).run P w = .ok (.value v) w' := by
  unfold execOp
  simp only [ho, Sem.run_bind, h, Result.andThen_ok, Sem.run_pure]
theorem ownsRow_mono {w : World} {base base' e size n : Nat} {v : Value} {xs : List Value} (h : w.ownsRow base e size v n xs) (hb : base' ≤ base) : w.ownsRow base' e size v n xs := by
  refine ⟨h.1, ?_⟩
  rcases h.2 with hn | ⟨g, cap, cur, hv, hg, rest⟩
  · exact .inl hn
  · exact .inr ⟨g, cap, cur, hv, by omega, rest⟩
/-- Own of the new object. -/
def newOwn (o : Own) (n p E : Nat) (pv : Value) : Own := fun k => if k < n then o k else if k = p then (E, 0) else if pv.ownBlock = some k then (E, 1) else (0, 0)

set_option maxRecDepth 100000 in
set_option maxHeartbeats 1600000 in
theorem rnew_any (w : World) (o : Own) (E n : Nat) (h1 : 1 ≤ n) (h2 : n ≤ 4096) :
    Calls Try.prog 33 #[.int .i64 (n : Int)] w (Ret Nobody w o fun v w' o' => ∃ p, w.heap.size ≤ p ∧ v = .pointer (some ⟨p, 0, none⟩) ∧ RefAt w' o' E p (DiskM.new n)) := by
  have hb0 : Below w.heap.size w (w.alloc (.cells #[.slice none 0 0, .slice none 0 0, .int .i64 (-1), .bool false] 51)) := (Below.refl _ _).alloc (Nat.le_refl _) _
  have hn0 : (w.alloc (.cells #[.slice none 0 0, .slice none 0 0, .int .i64 (-1), .bool false] 51)).heap[w.heap.size]? = some (.cells #[.slice none 0 0, .slice none 0 0, .int .i64 (-1), .bool false] 51 (0, 0)) := heap_alloc_new w _
  go_enter Try.func33, Try.ntmps33
  go_wp2_with fail
  go_loopw [4] (fun i wr => ∃ (k : Nat) (pv : Value), k ≤ n ∧ i = .int .i64 k ∧ wr.heap[w.heap.size]? = some (.cells #[pv, .slice none 0 0, .int .i64 (-1), .bool false] 51 (0, 0)) ∧
      wr.ownsRow (w.heap.size + 1) 9 1 pv k (strs (List.replicate k DiskM.blank)) ∧ Below w.heap.size w wr) (fun i _ => n - (intOf i).toNat)
  case atStart => exact ⟨0, .slice none 0 0, Nat.zero_le _, rfl, hn0, World.ownsRow_nil _ _ _ _, hb0⟩
  case round =>
    obtain ⟨k, pv, hk, rfl, hp, hown, hbel⟩ := hrel
    have c0 := cell_of_block hp 0
    have f0 := free_of_block hp 0
    simp only [List.getElem?_cons_zero] at c0
    have hpl := lt_of_block hp
    by_cases hlt : k < n
    · obtain ⟨pa, pc, rfl⟩ : ∃ a c, pv = .slice a k c := by
        rcases hown.2 with ⟨rfl, rfl⟩ | ⟨g, cap, cur, rfl, _⟩ <;> exact ⟨_, _, rfl⟩
      go_wp2_with fail
      generalize hpv : Value.slice pa k pc = pv at *
      generalize hbk : DiskM.blank = blank at *
      refine wp_region_need (fun w' => w'.cell? ⟨w.heap.size, 0, none⟩ = some pv) (fun i => decide (i < 11)) (by kernel_rfl) c0 (fun hHeld => ?_)
      have c0d : wr.drew.cell? ⟨w.heap.size, 0, none⟩ = some pv := hHeld
      refine wpAnyN_take (i := 0) (v := ?_) rfl (by kernel_rfl) (by kernel_rfl) (by kernel_rfl) (by kernel_rfl) (fun _ _ _ h => h) (Or.inl ⟨by rfl, ?_⟩) (by assumption) ?_
      rotate_left
      · intro w hSw; ((try dsimp only at hSw); go_simp; (try with_reducible rfl))
      simp only [Act.put, List.setIfInBounds_toArray, List.set_cons_zero, List.set_cons_succ]
      refine wpAnyN_take (i := 1) (v := ?_) rfl (by kernel_rfl) (by kernel_rfl) (by kernel_rfl) (by kernel_rfl) (fun _ _ _ h => h) (Or.inl ⟨by rfl, ?_⟩) (by assumption) ?_
      rotate_left
      · intro w hSw; ((try dsimp only at hSw); go_simp; (try with_reducible rfl))
      simp only [Act.put, List.setIfInBounds_toArray, List.set_cons_zero, List.set_cons_succ]
      refine wpAnyN_take (i := 2) (v := ?_) rfl (by kernel_rfl) (by kernel_rfl) (by kernel_rfl) (by kernel_rfl) (fun _ _ _ h => h) (Or.inl ⟨by rfl, ?_⟩) (by assumption) ?_
      rotate_left
      · intro w hSw; ((try dsimp only at hSw); go_simp; (try with_reducible rfl))
      simp only [Act.put, List.setIfInBounds_toArray, List.set_cons_zero, List.set_cons_succ]
      refine wpAnyN_take (i := 3) (v := ?_) rfl (by kernel_rfl) (by kernel_rfl) (by kernel_rfl) (by kernel_rfl) (fun _ _ _ h => h) (Or.inl ⟨by rfl, ?_⟩) (by assumption) ?_
      rotate_left
      · intro w hSw; ((try dsimp only at hSw); go_simp; (try with_reducible rfl))
      simp only [Act.put, List.setIfInBounds_toArray, List.set_cons_zero, List.set_cons_succ]
      refine wpAnyN_take (i := 4) (v := ?_) rfl (by kernel_rfl) (by kernel_rfl) (by kernel_rfl) (by kernel_rfl) (fun _ _ _ h => h) (Or.inl ⟨by rfl, ?_⟩) (by assumption) ?_
      rotate_left
      · intro w hSw; ((try dsimp only at hSw); go_simp; (try with_reducible rfl))
      simp only [Act.put, List.setIfInBounds_toArray, List.set_cons_zero, List.set_cons_succ]
      have hmk := run_make512 wr.drew
      rw [hbk] at hmk
      refine wpAnyN_one (i := 5) rfl (by kernel_rfl) ?_
      refine wpList_run rfl (exec_makeSlice 28 (.const (.int .i64 512)) (.const (.int .i64 512)) rfl hmk) ?_
      refine wpList_nil ?_
      simp only [Act.put, List.setIfInBounds_toArray, List.set_cons_zero, List.set_cons_succ]
      have hbd : Below w.heap.size w wr.drew := ⟨hbel.os, hbel.tape, hbel.output, hbel.size, hbel.block⟩
      have hb1 := hbd.alloc hbd.size (.cells (bvs blank).toArray 5)
      have hby : Bytes (wr.drew.alloc (.cells (bvs blank).toArray 5)) (tagAt o wr.drew.heap.size (0, 0)) (.slice (some ⟨wr.drew.heap.size, 0, none⟩) 512 512) blank := by
        rw [← hbk]; exact bytes_zeros wr.drew o 512 (by omega)
      have hp1 : (wr.drew.alloc (.cells (bvs blank).toArray 5)).heap[w.heap.size]? = some (.cells #[pv, .slice none 0 0, .int .i64 (-1), .bool false] 51 (0, 0)) := by rw [Below.heap_alloc wr.drew _ _ hpl]; exact hp
      have hown1 := World.ownsRow.alloc (w := wr.drew) hown (.cells (bvs blank).toArray 5)
      have hsz1 : (wr.drew.alloc (.cells (bvs blank).toArray 5)).heap.size = wr.heap.size + 1 := by simp
      have c01 := cell_of_block hp1 0
      simp only [List.getElem?_cons_zero] at c01
      refine ⟨fun _ => c01, ?_⟩
      have hcv := conv_string hby
      clear hmk hby
      generalize hW1 : wr.drew.alloc (.cells (bvs blank).toArray 5) = W1 at *
      clear hW1
      refine wpAnyN_one (i := 6) rfl (by kernel_rfl) ?_
      refine wpList_run rfl (exec_convert 28 9 (.tmp 17) rfl hcv) ?_
      refine wpList_nil ?_
      simp only [Act.put, List.setIfInBounds_toArray, List.set_cons_zero, List.set_cons_succ]
      refine ⟨fun _ => c01, ?_⟩
      have hb2 := hb1.alloc hb1.size (.cells #[str blank] 9)
      have hp2 : (W1.alloc (.cells #[str blank] 9)).heap[w.heap.size]? = some (.cells #[pv, .slice none 0 0, .int .i64 (-1), .bool false] 51 (0, 0)) := by rw [Below.heap_alloc _ _ _ (by omega)]; exact hp1
      have hown2 := hown1.alloc (.cells #[str blank] 9)
      have c02 := cell_of_block hp2 0
      simp only [List.getElem?_cons_zero] at c02
      have hnew : (W1.alloc (.cells #[str blank] 9)).heap[W1.heap.size]? = some (.cells [str blank].toArray 9 (0, 0)) := heap_alloc_new W1 _
      refine wpAnyN_one (i := 7) rfl (by kernel_rfl) ?_
      refine wpList_run rfl (exec_buildSlice 41 1 #[(0, .tmp 18)] rfl #[(0, str blank)] rfl (buildSlice41 W1 blank)) ?_
      refine wpList_nil ?_
      simp only [Act.put, List.setIfInBounds_toArray, List.set_cons_zero, List.set_cons_succ]
      refine ⟨fun _ => c02, ?_⟩
      have hsz2 : (W1.alloc (.cells #[str blank] 9)).heap.size = W1.heap.size + 1 := by simp
      generalize hW2 : W1.alloc (.cells #[str blank] 9) = W2 at *
      clear hW2
      obtain ⟨g, cap, W3, hrun, hown3, hgrow, hat, hlt3⟩ := run_append_row (P := Try.prog) W2 41 41 9 Try.underlying41 infR9 rfl (by omega) (by omega) pv k (strs (List.replicate k blank)) hown2 W1.heap.size 0 1 1
        [str blank] rfl (range_whole hnew) (one_cons rfl (by simp)) (by omega) (by omega) (by omega)
      have hb3 : Below w.heap.size w W3 := hb2.grown hgrow hb2.size (fun k hk => by have := (hown2.lt k hk).1; omega)
      have hp3 : W3.heap[w.heap.size]? = some (.cells [pv, .slice none 0 0, .int .i64 (-1), .bool false].toArray 51 (0, 0)) := by
        rw [hgrow.block _ (by omega) (by intro hx; have := (hown2.lt _ hx.symm).1; omega)]; exact hp2
      have hown3' : W3.ownsRow (w.heap.size + 1) 9 1 (.slice (some ⟨g, 0, none⟩) (k + 1) cap) (k + 1) (strs (List.replicate (k + 1) blank)) := by
        rw [List.replicate_succ', strs, List.map_append]; exact hown3
      have hgp : w.heap.size + 1 ≤ g := (hown3'.lt g rfl).1
      have c03 := cell_of_block hp3 0
      simp only [List.getElem?_cons_zero] at c03
      have f03 := free_of_block hp3 0
      have hp4 := heap_setCell_at (i := 0) (.slice (some ⟨g, 0, none⟩) (k + 1) cap) hp3
      have hown4 := ownsRow_setCell_other hown3' (a := ⟨w.heap.size, 0, none⟩) (by simp [Value.ownBlock]; omega) (.slice (some ⟨g, 0, none⟩) (k + 1) cap)
      have hb4 : Below w.heap.size w (W3.setCell ⟨w.heap.size, 0, none⟩ (.slice (some ⟨g, 0, none⟩) (k + 1) cap)) := hb3.setCell (Nat.le_refl _) _
      refine wpAnyN_one (i := 8) rfl (by kernel_rfl) ?_
      refine wpList_run rfl (exec_append (.tmp 16) (.tmp 19) 41 41 rfl hrun) ?_
      refine wpList_nil ?_
      simp only [Act.put, List.setIfInBounds_toArray, List.set_cons_zero, List.set_cons_succ]
      refine ⟨fun _ => c03, ?_⟩
      clear hrun hown3 hown3' hown2 hown1 hown hp hp1 hp2 c01 c02 hb1 hb2 hbd hb3
      refine wpAnyN_one (i := 9) rfl (by kernel_rfl) ?_
      go_wp2_with fail
      refine ⟨fun _ => c03, ?_⟩
      refine wpAnyN_one (i := 10) rfl (by kernel_rfl) ?_
      go_wp2_with fail
      refine ⟨fun _ => c03, ?_⟩
      refine wpAnyN_one (i := 11) rfl (by kernel_rfl) ?_
      go_wp2_with fail
      refine ⟨fun h => by simp at h, ?_⟩
      refine wpAnyN_done (by kernel_rfl) ?_ _
      go_wp2_with fail
      go_roundw
      case rel => exact ⟨k + 1, _, hlt, by go_num, hp4, by rw [hbk]; exact hown4, hb4⟩
      case measure => simp [intOf]; omega
    · have hk' : k = n := by omega
      subst hk'
      go_wp2
      go_ret
      refine ⟨_, newOwn o w.heap.size w.heap.size E pv, rfl, ⟨hbel.os, hbel.tape, hbel.output, hbel.size, fun j hj => if_pos hj, fun j hj _ => hbel.block j hj⟩, w.heap.size, Nat.le_refl _, rfl, pv, .slice none 0 0, ?_, ?_, World.ownsRow_nil _ _ _ _, ?_, ?_, ?_, ?_⟩
      · exact hp
      · simp only [DiskM.new, List.length_replicate]; exact ownsRow_mono hown (Nat.zero_le _)
      · simp [newOwn]
      · intro j hj
        have := (hown.lt j hj).1
        simp only [newOwn]
        rw [if_neg (by omega), if_neg (by omega), if_pos hj]
      · intro j hj; simp [Value.ownBlock] at hj
      · refine ⟨by simpa [DiskM.new] using h1, by simpa [DiskM.new] using h2, ?_, by simp [DiskM.new], by simp [DiskM.new], by simp [DiskM.new]⟩
        intro p hp
        simp only [DiskM.new] at hp
        rw [List.eq_of_mem_replicate hp]; exact length_blank

/-- The last write of the row has come. -/
theorem RefAt.pushed {w' : World} {o' : Own} {E p : Nat} {d : DiskM} {g cap : Nat} {pv rv : Value} {at' : Nat} {l : List UInt8} (hwf : d.wf) (ha : at' < d.pages.length) (hl : l.length = 512)
    (hp : w'.heap[p]? = some (.cells #[pv, rv, .int .i64 d.left, .bool d.dead] 51 (0, 0)))
    (hpg : w'.ownsRow 0 9 1 pv d.pages.length (strs d.pages))
    (hown : w'.ownsRow 0 174 2 (.slice (some ⟨g, 0, none⟩) (d.row.length + 1) cap) (d.row.length + 1) (refCells d.row ++ [.int .i64 (at' : Int), str l]))
    (op : o' p = (E, 0)) (ol : ∀ k, pv.ownBlock = some k → o' k = (E, 1)) (og : o' g = (E, 2)) :
    RefAt (w'.setCell ⟨p, 1, none⟩ (.slice (some ⟨g, 0, none⟩) (d.row.length + 1) cap)) o' E p { d with row := d.row ++ [(at', l)] } := by
  refine ⟨pv, .slice (some ⟨g, 0, none⟩) (d.row.length + 1) cap, heap_setCell_at _ hp, ?_, ?_, op, ol, ?_, ?_⟩
  · refine ownsRow_same hpg fun k hk => Below.heap_setCell _ _ _ _ ?_
    rintro rfl; have := ol _ hk; rw [op] at this; simp at this
  · have : (d.row ++ [(at', l)]).length = d.row.length + 1 := by simp
    rw [this, refCells_snoc]
    refine ownsRow_same hown fun k hk => Below.heap_setCell _ _ _ _ ?_
    simp only [Value.ownBlock, Option.some.injEq] at hk
    subst hk
    rintro rfl; rw [op] at og; simp at og
  · intro k hk
    simp only [Value.ownBlock, Option.some.injEq] at hk
    subst hk; exact og
  · obtain ⟨h1, h2, h3, h4, h5, h6⟩ := hwf
    refine ⟨h1, h2, h3, ?_, h5, h6⟩
    intro x hx
    rcases List.mem_append.1 hx with hx | hx
    · exact h4 x hx
    · simp only [List.mem_singleton] at hx; subst hx; exact ⟨ha, hl⟩

/-- The append of Write. -/
theorem rpush_run {w w1 : World} {o o1 : Own} {E p : Nat} {d : DiskM} {pv rv : Value} (hs1 : Step (Only E) w o w1 o1)
    (hp : w1.heap[p]? = some (.cells #[pv, rv, .int .i64 d.left, .bool d.dead] 51 (0, 0))) (hl : w1.ownsRow 0 9 1 pv d.pages.length (strs d.pages)) (hr : w1.ownsRow 0 174 2 rv d.row.length (refCells d.row))
    (op : o1 p = (E, 0)) (ol : ∀ k, pv.ownBlock = some k → o1 k = (E, 1)) (orr : ∀ k, rv.ownBlock = some k → o1 k = (E, 2)) (hrow : d.row.length ≤ 1000000) (n : Nat) (l : List UInt8) :
    ∃ g cap w3, Hid ((Builtin.append_ #[49, 49] 49 #[rv, .slice (some ⟨w1.heap.size, 0, none⟩) 1 1]).run Try.prog (w1.alloc (.cells #[.int .i64 (n : Int), .string ⟨l.toArray⟩] 174)) = .ok (.slice (some ⟨g, 0, none⟩) (d.row.length + 1) cap) w3) ∧
      Step (Only E) w o w3 (tagAt o1 g (E, 2)) ∧ w3.heap[p]? = some (.cells #[pv, rv, .int .i64 d.left, .bool d.dead] 51 (0, 0)) ∧ w3.ownsRow 0 9 1 pv d.pages.length (strs d.pages) ∧
      w3.ownsRow 0 174 2 (.slice (some ⟨g, 0, none⟩) (d.row.length + 1) cap) (d.row.length + 1) (refCells d.row ++ [.int .i64 (n : Int), str l]) ∧
      tagAt o1 g (E, 2) p = (E, 0) ∧ (∀ k, pv.ownBlock = some k → tagAt o1 g (E, 2) k = (E, 1)) ∧ tagAt o1 g (E, 2) g = (E, 2) := by
  have hpl := lt_of_block hp
  have hW : Step (Only E) w o (w1.alloc (.cells [.int .i64 (n : Int), str l].toArray 174)) o1 := hs1.alloc' _
  have hnew : (w1.alloc (.cells [.int .i64 (n : Int), str l].toArray 174)).heap[w1.heap.size]? = some (.cells [.int .i64 (n : Int), str l].toArray 174 (0, 0)) := heap_alloc_new w1 _
  have hold : ∀ k, k < w1.heap.size → (w1.alloc (.cells [.int .i64 (n : Int), str l].toArray 174)).heap[k]? = w1.heap[k]? := fun k hk => Below.heap_alloc w1 _ k hk
  have hownW := ownsRow_same hr (fun k hk => hold k (hr.lt k hk).2)
  have hlW := ownsRow_same hl (fun k hk => hold k (hl.lt k hk).2)
  have hWs : (w1.alloc (.cells [.int .i64 (n : Int), str l].toArray 174)).heap.size = w1.heap.size + 1 := by simp
  have hsame : (w1.alloc (.cells #[.int .i64 (n : Int), .string ⟨l.toArray⟩] 174)) = (w1.alloc (.cells [.int .i64 (n : Int), str l].toArray 174)) := rfl
  rw [hsame]
  generalize (w1.alloc (.cells [.int .i64 (n : Int), str l].toArray 174)) = W at *
  obtain ⟨g, cap, w3, hrun, hown3, hgrow, hat, hlt⟩ := run_append_row (P := Try.prog) W 49 49 174 Try.underlying49 inf174 rfl (by omega) (Nat.zero_le _) rv d.row.length (refCells d.row) hownW w1.heap.size 0 1 1
    [.int .i64 (n : Int), str l] rfl (range_whole hnew) (one_cons rfl (one_cons rfl (by simp))) (by omega) (by omega) (by omega)
  have hgt : o1 g = (E, 2) ∨ W.heap.size ≤ g := by
    rcases hat with hat | hat
    · exact .inl (orr g hat)
    · exact .inr (by omega)
  have hgp : p ≠ g := by
    rintro rfl
    rcases hgt with h1 | h1
    · rw [op] at h1; simp at h1
    · omega
  have hgl : ∀ k, pv.ownBlock = some k → k ≠ g := by
    rintro k hk rfl
    have := (hl.lt k hk).2
    rcases hgt with h1 | h1
    · rw [ol k hk] at h1; simp at h1
    · omega
  refine ⟨g, cap, w3, hrun, hW.grown hgrow (fun k hk => .inl (by rw [orr k hk]; rfl)) g (E, 2) hgt, ?_, ?_, hown3, ?_, ?_, tagAt_same _ _ _⟩
  · rw [hgrow.block p (by omega) (by intro hx; have := orr p hx.symm; rw [op] at this; simp at this), hold p hpl]; exact hp
  · refine ownsRow_same hlW fun k hk => hgrow.block k (by have := (hl.lt k hk).2; omega) ?_
    intro hx; have := orr k hx.symm; rw [ol k hk] at this; simp at this
  · rw [tagAt_other _ _ hgp]; exact op
  · intro k hk; rw [tagAt_other _ _ (hgl k hk)]; exact ol k hk

theorem counts_is {w : World} {o : Own} {E p : Nat} {d d1 : DiskM} {e1 : Int} (h : RefAt w o E p d) (he : Hid (d.counted 0 = (d1, e1))) :
    Calls Try.prog 113 #[.pointer (some ⟨p, 0, none⟩)] w (Ret (Only E) w o fun v w' o' => v = .bool (decide (e1 = 0)) ∧ RefAt w' o' E p d1) := by
  have := counts_any h
  rw [he.out] at this; exact this
theorem counted_nine (d : DiskM) (h : (d.counted 0).2 ≠ 0) : (d.counted 0).2 = 9 := by
  unfold DiskM.counted at *
  split at h
  · rename_i hx; simp at h
  · split at h
    · rename_i h1 h2; rw [if_neg h1, if_pos h2]
    · simp at h

set_option maxRecDepth 100000 in
set_option maxHeartbeats 1600000 in
theorem rwrite_any {w : World} {o : Own} {E p : Nat} {d : DiskM} (h : RefAt w o E p d) (at' : Int) (l : List UInt8) (_hll : l.length ≤ 1000000) (hrow : d.row.length ≤ 1000000) :
    Calls Try.prog 72 #[.pointer (some ⟨p, 0, none⟩), .int .i64 at', str l] w (Ret (Only E) w o fun v w' o' => v = .int .i64 (d.write at' l).2 ∧ RefAt w' o' E p (d.write at' l).1) := by
  obtain ⟨hw1, hw2, -, -, -, -⟩ := h.wf
  obtain ⟨pv, rv, ⟨c0, c1, c2, c3⟩, ⟨f1, f2, f3⟩, hl, hr, op, ol, orr⟩ := h.open
  obtain ⟨pg, pc, rfl⟩ := row_at hl (by omega)
  clear op ol orr hl hr c1 c2 f1 f2 f3
  have hlen : (({ data := l.toArray } : ByteArray).size : Int) = (l.length : Int) := by simp [ByteArray.size]
  by_cases hd : d.dead = true
  · rw [hd] at c3
    have hE : d.write at' l = (d, 9) := by simp [DiskM.write, DiskM.counted, DiskM.asked, hd]
    rw [hE]
    go_enter Try.func72, Try.ntmps72
    go_wp2
    go_ret
    exact ⟨_, o, rfl, Step.refl _ _ _, rfl, h⟩
  · have hd' : d.dead = false := by simpa using hd
    rw [hd'] at c3
    unfold str
    by_cases h1 : at' < 0
    · have hE : d.write at' l = (d, 1) := by simp [DiskM.write, DiskM.counted, DiskM.asked, hd', h1]
      rw [hE]
      go_enter Try.func72, Try.ntmps72
      go_wp2
      go_ret
      exact ⟨_, o, rfl, Step.refl _ _ _, rfl, h⟩
    · by_cases h2 : (d.pages.length : Int) ≤ at'
      · have hE : d.write at' l = (d, 1) := by simp [DiskM.write, DiskM.counted, DiskM.asked, hd', h2]
        rw [hE]
        go_enter Try.func72, Try.ntmps72
        go_wp2
        go_ret
        exact ⟨_, o, rfl, Step.refl _ _ _, rfl, h⟩
      · by_cases h3 : l.length = 512
        · have hE : d.write at' l = if (d.counted 0).2 ≠ 0 then d.counted 0 else ({ (d.counted 0).1 with row := (d.counted 0).1.row ++ [(at'.toNat, l)] }, 0) := by
            simp only [DiskM.write, DiskM.asked, hd', h1, h2, h3]
            simp
          rw [hE]
          obtain ⟨hpg, hrw⟩ := DiskM.counted_same d 0
          have hnine := counted_nine d
          obtain ⟨d1, e1, hc⟩ : ∃ d1 e1, Hid (d.counted 0 = (d1, e1)) := ⟨_, _, rfl⟩
          rw [hc.out] at hpg hrw hnine ⊢
          simp only at hpg hrw hnine ⊢
          obtain ⟨n, rfl⟩ := Int.eq_ofNat_of_zero_le (show 0 ≤ at' by omega)
          have hlenb : ((l.length : Int) != 512) = false := by rw [h3]; rfl
          have H3 := hidden h3
          have ha1 : n < d1.pages.length := by rw [hpg]; omega
          have hrow1 : d1.row.length ≤ 1000000 := by rw [hrw]; exact hrow
          clear hE h3 hpg hrw
          by_cases he : e1 = 0
          · subst he
            simp only [ne_eq, not_true_eq_false, if_false, Int.toNat_natCast]
            go_enter Try.func72, Try.ntmps72
            go_wp2_with (first
              | ((with_reducible refine (counts_is h hc).mono ?_); rintro e w1 ⟨v1, o1, rfl, hs1, rfl, hd1⟩
                 obtain ⟨pv1, rv1, hp1, hl1, hr1, op1, ol1, or1, hwf1⟩ := hd1
                 obtain ⟨g, cap, w3, hrunH, hs3, hp3, hl3, hown3, op3, ol3, og3⟩ := rpush_run hs1 hp1 hl1 hr1 op1 ol1 or1 hrow1 n l
                 have c01 := cell_of_block hp1 1
                 have f03 := free_of_block hp3 1
                 have c03 := cell_of_block hp3 1
                 simp only [List.getElem?_cons_zero, List.getElem?_cons_succ] at c01 c03
                 have hs4 := hs3.setCell (a := ⟨p, 1, none⟩) (.slice (some ⟨g, 0, none⟩) (d1.row.length + 1) cap) (.inl (by rw [op3]; rfl))
                 have hd4 := RefAt.pushed hwf1 ha1 H3.out hp3 hl3 hown3 op3 ol3 og3
                 obtain ⟨ra, rc, rfl⟩ := rrow_form hr1
                 clear hp1 hl1 hr1 op1 ol1 or1 hp3 hl3 hown3 op3 ol3 og3)
              | ((with_reducible apply lit_append); exact hrunH.out; simp only [Act.put, List.setIfInBounds_toArray, List.set_cons_zero, List.set_cons_succ]))
            go_ret
            exact ⟨_, _, rfl, hs4, rfl, hd4⟩
          · rw [if_pos he]
            have he9 := hnine he
            subst he9
            go_enter Try.func72, Try.ntmps72
            go_wp2_with ((with_reducible refine (counts_is h hc).mono ?_); rintro e w1 ⟨v1, o1, rfl, hs1, rfl, hd1⟩)
            go_ret
            exact ⟨_, o1, rfl, hs1, rfl, hd1⟩
        · have hE : d.write at' l = (d, 1) := by
            have ha : d.asked at' l.length = 1 := by simp only [DiskM.asked, hd']; rw [if_neg (by simp), if_pos (by omega)]
            simp [DiskM.write, DiskM.counted, ha]
          rw [hE]
          have h3' : ((l.length : Int) != 512) = true := by simp; omega
          clear h3
          go_enter Try.func72, Try.ntmps72
          go_wp2
          go_ret
          exact ⟨_, o, rfl, Step.refl _ _ _, rfl, h⟩
end Go.Proofs.YtfgggkheadfiaaaR
/- Contracts of the document's own disk: Sync, Restart. -/
namespace Go.Proofs.YtfgggkheadfiaaaR
open Go Go.RowKit
attribute [local go_sem ↓] Go.wp_at_zero Go.wp_at_succ

theorem run_str_take (w : World) (l : List UInt8) (n : Nat) (hn : n ≤ l.length) : (Instr.sliceAt 9 (str l) none (some (.int .i64 (n : Int))) none).run Try.prog w = .ok (str (l.take n)) w := by
  have hx : (⟨l.toArray⟩ : ByteArray).extract 0 n = ⟨(l.take n).toArray⟩ := by
    apply ByteArray.ext; simp [ByteArray.data_extract]
  have hs : (⟨l.toArray⟩ : ByteArray).size = l.length := by simp [ByteArray.size]
  have hb : (Instr.sliceBound (.int .i64 (n : Int)) l.length .sliceAlen).run Try.prog w = .ok n w := by
    rw [run_sliceBound (k := .i64) (i := (n : Int)) (h0 := by omega) (h1 := by omega)]; simp
  simp only [Instr.sliceAt, Instr.slice, str, Sem.run_bind, run_underlying Try.underlying9, Result.andThen_ok, Instr.sliceBounds, Option.isSome, hs]
  simp [hb, hx]
theorem run_str_drop (w : World) (l : List UInt8) (n : Nat) (hn : n ≤ l.length) : (Instr.sliceAt 9 (str l) (some (.int .i64 (n : Int))) none none).run Try.prog w = .ok (str (l.drop n)) w := by
  have hx : (⟨l.toArray⟩ : ByteArray).extract n l.length = ⟨(l.drop n).toArray⟩ := by
    apply ByteArray.ext
    simp only [ByteArray.data_extract, List.extract_toArray, List.extract_eq_take_drop, Array.mk.injEq]
    exact List.take_of_length_le (by simp)
  have hs : (⟨l.toArray⟩ : ByteArray).size = l.length := by simp [ByteArray.size]
  have hb : (Instr.sliceBound (.int .i64 (n : Int)) l.length .sliceB).run Try.prog w = .ok n w := by
    rw [run_sliceBound (k := .i64) (i := (n : Int)) (h0 := by omega) (h1 := by omega)]; simp
  simp only [Instr.sliceAt, Instr.slice, str, Sem.run_bind, run_underlying Try.underlying9, Result.andThen_ok, Instr.sliceBounds, Option.isSome, hs]
  simp [hb, hx]
theorem run_str_add (w : World) (l m : List UInt8) (hn : l.length + m.length ≤ 1000000) : (binOp .add 9 (str l) (str m)).run Try.prog w = .ok (str (l ++ m)) w := by
  have hs : ∀ l : List UInt8, (⟨l.toArray⟩ : ByteArray).size = l.length := fun l => by simp [ByteArray.size]
  have hx : (⟨l.toArray⟩ : ByteArray) ++ (⟨m.toArray⟩ : ByteArray) = ⟨(l ++ m).toArray⟩ := by
    apply ByteArray.ext; simp
  simp only [binOp, str, Op.stringOp, hs]
  rw [if_neg (by simp [IntKind.max, IntKind.bits, IntKind.signed]; omega)]
  rw [hx]; simp
theorem exec_slice {P : Program} {a : Act} {op : Oper} {w w' : World} (t : TypeId) (x : Operand) (lo hi mx : Option Operand) (ho : op.op = .slice t x lo hi mx) {v : Value}
    (h : (Instr.sliceAt t (a.eval x) (lo.map a.eval) (hi.map a.eval) (mx.map a.eval)).run P w = .ok v w') : (execOp a.eval op).run P w = .ok (.value v) w' := by
  unfold execOp
  simp only [ho, Sem.run_bind, h, Result.andThen_ok, Sem.run_pure]
theorem exec_add {P : Program} {a : Act} {op : Oper} {w w' : World} (t u : TypeId) (x y : Operand) (ho : op.op = .binOp .add t x y u) {v : Value}
    (h : (binOp .add t (a.eval x) (a.eval y)).run P w = .ok v w') : (execOp a.eval op).run P w = .ok (.value v) w' := by
  unfold execOp
  simp only [ho, Sem.run_bind, eqGuard, Bool.not_false, if_true, h, Result.andThen_ok, Sem.run_pure]

/-- What lies where, in a round of the row's loop. -/
def RefMid (w : World) (o : Own) (E p pg pc : Nat) (rv : Value) (d : DiskM) (ps : List (List UInt8)) (wr : World) (o1 : Own) : Prop :=
  Step (Only E) w o wr o1 ∧ wr.heap[p]? = some (.cells #[.slice (some ⟨pg, 0, none⟩) d.pages.length pc, rv, .int .i64 d.left, .bool d.dead] 51 (0, 0)) ∧
    wr.ownsRow 0 9 1 (.slice (some ⟨pg, 0, none⟩) d.pages.length pc) d.pages.length (strs ps) ∧ wr.ownsRow 0 174 2 rv d.row.length (refCells d.row) ∧
    o1 p = (E, 0) ∧ o1 pg = (E, 1) ∧ (∀ k, rv.ownBlock = some k → o1 k = (E, 2))
section
variable {w wr : World} {o o1 : Own} {E p pg pc : Nat} {rv : Value} {d : DiskM} {ps : List (List UInt8)}
theorem RefMid.drew (h : RefMid w o E p pg pc rv d ps wr o1) : RefMid w o E p pg pc rv d ps wr.drew o1 := by
  obtain ⟨h1, h2, h3, h4, h5, h6, h7⟩ := h
  exact ⟨h1.drew, h2, h3, h4, h5, h6, h7⟩
theorem RefMid.set (h : RefMid w o E p pg pc rv d ps wr o1) (j : Nat) (l : List UInt8) : RefMid w o E p pg pc rv d (ps.set j l) (wr.setCell ⟨pg, j, none⟩ (str l)) o1 := by
  obtain ⟨h1, h2, h3, h4, h5, h6, h7⟩ := h
  refine ⟨h1.setCell _ (.inl (by rw [h6]; rfl)), ?_, ?_, ?_, h5, h6, h7⟩
  · rw [Below.heap_setCell _ _ _ _ (by rintro rfl; rw [h5] at h6; simp at h6)]; exact h2
  · rw [← strs_set]; exact (h3.stored j (str l)).1
  · refine ownsRow_same h4 fun k hk => Below.heap_setCell _ _ _ _ ?_
    rintro rfl; have := h7 _ hk; rw [h6] at this; simp at this
theorem RefMid.done (h : RefMid w o E p pg pc rv d ps wr o1) (hwf : d.wf) (hps : ps.length = d.pages.length ∧ ∀ q ∈ ps, q.length = 512) : RefAt (wr.setCell ⟨p, 1, none⟩ (.slice none 0 0)) o1 E p { d with pages := ps, row := [] } ∧
    Step (Only E) w o (wr.setCell ⟨p, 1, none⟩ (.slice none 0 0)) o1 := by
  obtain ⟨h1, h2, h3, h4, h5, h6, h7⟩ := h
  obtain ⟨w1, w2, w3, w4, w5, w6⟩ := hwf
  have hat : RefAt wr o1 E p { d with pages := ps } := by
    refine ⟨.slice (some ⟨pg, 0, none⟩) d.pages.length pc, rv, h2, by rw [hps.1]; exact h3, h4, h5, ?_, h7, ⟨by rw [hps.1]; exact w1, by rw [hps.1]; exact w2, hps.2, ?_, w5, w6⟩⟩
    · intro k hk
      simp only [Value.ownBlock, Option.some.injEq] at hk
      subst hk; exact h6
    · intro x hx; show x.1 < ps.length ∧ _; rw [hps.1]; exact w4 x hx
  exact ⟨hat.setRowNil, h1.setCell _ (.inl (by rw [h5]; rfl))⟩
/-- The cells of a round. -/
theorem RefMid.cells (h : RefMid w o E p pg pc rv d ps wr o1) (k : Nat) (hk : k < d.row.length) :
    wr.cell? ⟨p, 0, none⟩ = some (.slice (some ⟨pg, 0, none⟩) d.pages.length pc) ∧ ∃ g cap, rv = .slice (some ⟨g, 0, none⟩) d.row.length cap ∧ wr.cell? ⟨p, 1, none⟩ = some (.slice (some ⟨g, 0, none⟩) d.row.length cap) ∧
      wr.cell? ⟨g, k * 2, none⟩ = some (.int .i64 (d.row[k].1 : Int)) ∧ wr.cell? ⟨g, k * 2 + 1, none⟩ = some (str d.row[k].2) := by
  obtain ⟨h1, h2, h3, h4, h5, h6, h7⟩ := h
  obtain ⟨g, cap, rfl⟩ := row_at h4 (by omega)
  exact ⟨cell_of_block h2 0, g, cap, rfl, cell_of_block h2 1, by rw [h4.cellAt _ (by omega), Nat.mul_comm]; exact (get_refCells _ _ hk).1, by rw [h4.cellAt _ (by omega), Nat.mul_comm]; exact (get_refCells _ _ hk).2⟩
theorem RefMid.page (h : RefMid w o E p pg pc rv d ps wr o1) (j : Nat) (hj : j < ps.length) (hps : ps.length = d.pages.length) : wr.cell? ⟨pg, j, none⟩ = some (str (ps.getD j [])) ∧ wr.frozen? ⟨pg, j, none⟩ = false := by
  obtain ⟨h1, h2, h3, h4, h5, h6, h7⟩ := h
  exact ⟨by rw [h3.cellAt _ (by omega)]; exact get_strs _ _ hj, h3.frozenAt j⟩
theorem RefMid.len (h : RefMid w o E p pg pc rv d ps wr o1) : wr.cell? ⟨p, 1, none⟩ = some rv ∧ wr.frozen? ⟨p, 1, none⟩ = false ∧ ∃ a c, rv = .slice a d.row.length c := by
  obtain ⟨h1, h2, h3, h4, h5, h6, h7⟩ := h
  exact ⟨cell_of_block h2 1, free_of_block h2 1, rrow_form h4⟩
end
theorem RefAt.mid {w w1 : World} {o o1 : Own} {E p : Nat} {d : DiskM} (h : RefAt w1 o1 E p d) (hs : Step (Only E) w o w1 o1) : ∃ pg pc rv, RefMid w o E p pg pc rv d d.pages w1 o1 := by
  obtain ⟨pv, rv, hp, hl, hr, op, ol, orr, hwf⟩ := h
  obtain ⟨pg, pc, rfl⟩ := row_at hl hwf.1
  exact ⟨pg, pc, rv, hs, hp, hl, hr, op, ol pg rfl, orr⟩
theorem donePages_take (f : Nat → Nat) (pages : List (List UInt8)) (row : List (Nat × List UInt8)) (k : Nat) (hk : k < row.length) :
    DiskM.donePages f pages (row.take (k + 1)) = (DiskM.donePages f pages (row.take k)).set row[k].1 (DiskM.splicePage (f k) row[k].2 ((DiskM.donePages f pages (row.take k)).getD row[k].1 [])) := by
  rw [List.take_succ_eq_append_getElem hk, DiskM.donePages_snoc]
  simp [DiskM.doneOne, List.length_take, Nat.min_eq_left (Nat.le_of_lt hk)]

set_option maxRecDepth 100000 in
set_option maxHeartbeats 3200000 in
theorem rsync_any {w : World} {o : Own} {E p : Nat} {d : DiskM} (h : RefAt w o E p d) (hrow : d.row.length ≤ 1000000) :
    Calls Try.prog 73 #[.pointer (some ⟨p, 0, none⟩)] w (Ret (Only E) w o fun v w' o' => v = .int .i64 d.sync.2 ∧ RefAt w' o' E p d.sync.1) := by
  obtain ⟨hw1, hw2, -, -, -, -⟩ := h.wf
  obtain ⟨pv, rv, ⟨c0, c1, c2, c3⟩, -⟩ := h.open
  clear c0 c1 c2
  by_cases hd : d.dead = true
  · rw [hd] at c3
    have hE : d.sync = (d, 9) := by simp [DiskM.sync, DiskM.counted, DiskM.asked, hd]
    rw [hE]
    go_enter Try.func73, Try.ntmps73
    go_wp2
    go_ret
    exact ⟨_, o, rfl, Step.refl _ _ _, rfl, h⟩
  · have hd' : d.dead = false := by simpa using hd
    rw [hd'] at c3
    have hE : d.sync = if (d.counted 0).2 ≠ 0 then d.counted 0 else ((d.counted 0).1.done fun _ => 512, 0) := by
      have ha : d.asked 0 512 = 0 := by simp only [DiskM.asked, hd']; rw [if_neg (by simp), if_neg (by omega)]
      simp only [DiskM.sync, ha]
    rw [hE]
    obtain ⟨hpg, hrw⟩ := DiskM.counted_same d 0
    have hnine := counted_nine d
    obtain ⟨d1, e1, hc⟩ : ∃ d1 e1, Hid (d.counted 0 = (d1, e1)) := ⟨_, _, rfl⟩
    rw [hc.out] at hpg hrw hnine ⊢
    simp only at hpg hrw hnine ⊢
    have hrow1 : d1.row.length ≤ 1000000 := by rw [hrw]; exact hrow
    clear hE hpg hrw
    by_cases he : e1 = 0
    · subst he
      simp only [ne_eq, not_true_eq_false, if_false]
      go_enter Try.func73, Try.ntmps73
      go_wp2_with ((with_reducible refine (counts_is h hc).mono ?_); rintro e w1 ⟨v1, o1, rfl, hs1, rfl, hd1⟩)
      have hwf1 := hd1.wf
      obtain ⟨pg, pc, rv1, hmid⟩ := hd1.mid hs1
      have hdp : DiskM.donePages (fun _ => 512) d1.pages (d1.row.take 0) = d1.pages := rfl
      have hPW := DiskM.donePages_wf (fun _ => 512) (fun _ => Nat.le_refl _) d1.pages hwf1.2.2.1
      have hw4 := hwf1.2.2.2.1
      have hwfH := hidden hwf1
      have hw4H := hidden hw4
      have hPWH := hidden hPW
      clear hwf1 hPW hw4 hd1 c3
      go_loopw [3] (fun i wr => ∃ k : Nat, k ≤ d1.row.length ∧ i = .int .i64 k ∧ RefMid w o E p pg pc rv1 d1 (DiskM.donePages (fun _ => 512) d1.pages (d1.row.take k)) wr o1)
        (fun i _ => d1.row.length - (intOf i).toNat)
      case atStart => exact ⟨0, Nat.zero_le _, rfl, hmid⟩
      case round =>
        obtain ⟨k, hk, rfl, hm⟩ := hrel
        obtain ⟨cr, fr, ra, rc, hrv⟩ := hm.len
        by_cases hlt : k < d1.row.length
        · have hsn := donePages_take (fun _ => 512) d1.pages d1.row k hlt
          have hx := hw4H.out d1.row[k] (List.getElem_mem hlt)
          have hPk := hPWH.out (d1.row.take k) (fun x hx => hw4H.out x (List.mem_of_mem_take hx))
          obtain ⟨c0, g, cap, hrv2, c1, e1, e2⟩ := hm.cells k hlt
          generalize hpk : DiskM.donePages (fun _ => 512) d1.pages (d1.row.take k) = pk at *
          have hpgk := hm.page d1.row[k].1 (by rw [hPk.1]; exact hx.1) hPk.1
          have hold : (pk.getD d1.row[k].1 []).length = 512 := DiskM.getD_wf hPk.2 (by rw [hPk.1]; exact hx.1)
          have hspl : DiskM.splicePage 512 d1.row[k].2 (pk.getD d1.row[k].1 []) = d1.row[k].2 := by
            rw [DiskM.splicePage, List.take_of_length_le (by omega), List.drop_eq_nil_of_le (by omega), List.append_nil]
          rw [hspl] at hsn
          have hset := hm.drew.set d1.row[k].1 d1.row[k].2
          rw [← hsn] at hset
          subst hrv2
          simp only [Value.slice.injEq, true_and] at hrv
          obtain ⟨rfl, rfl⟩ := hrv
          have hsetH := hidden hset
          have hx1 := hx.1
          clear hset hsn hspl hold hPk hx hm cr fr
          obtain ⟨cpg, fpg⟩ := hpgk
          clear hpk
          generalize d1.row[k] = x at *
          obtain ⟨xa, xl⟩ := x
          simp only at e1 e2 hsetH cpg fpg hx1
          go_wp2_with fail
          refine wp_region_need (fun w' => w'.cell? ⟨p, 0, none⟩ = some (.slice (some ⟨pg, 0, none⟩) d1.pages.length pc) ∧ w'.cell? ⟨p, 1, none⟩ = some (.slice (some ⟨g, 0, none⟩) d1.row.length cap) ∧ w'.cell? ⟨g, k * 2, none⟩ = some (.int .i64 (xa : Int)) ∧
            w'.cell? ⟨g, k * 2 + 1, none⟩ = some (str xl)) (fun i => decide (i < 21)) (by kernel_rfl) ⟨c0, c1, e1, e2⟩ (fun hHeld => ?_)
          refine wpAnyN_take (i := 0) (v := ?_) rfl (by kernel_rfl) (by kernel_rfl) (by kernel_rfl) (by kernel_rfl) (fun _ _ _ h => h) (Or.inl ⟨by rfl, ?_⟩) (by assumption) ?_
          rotate_left
          · intro w hSw; ((try dsimp only at hSw); go_simp; (try with_reducible rfl))
          simp only [Act.put, List.setIfInBounds_toArray, List.set_cons_zero, List.set_cons_succ]
          refine wpAnyN_take (i := 1) (v := ?_) rfl (by kernel_rfl) (by kernel_rfl) (by kernel_rfl) (by kernel_rfl) (fun _ _ _ h => h) (Or.inl ⟨by rfl, ?_⟩) (by assumption) ?_
          rotate_left
          · intro w hSw; ((try dsimp only at hSw); go_simp; (try with_reducible rfl))
          simp only [Act.put, List.setIfInBounds_toArray, List.set_cons_zero, List.set_cons_succ]
          refine wpAnyN_take (i := 2) (v := ?_) rfl (by kernel_rfl) (by kernel_rfl) (by kernel_rfl) (by kernel_rfl) (fun _ _ _ h => h) (Or.inl ⟨by rfl, ?_⟩) (by assumption) ?_
          rotate_left
          · intro w hSw; ((try dsimp only at hSw); go_simp; (try with_reducible rfl))
          simp only [Act.put, List.setIfInBounds_toArray, List.set_cons_zero, List.set_cons_succ]
          refine wpAnyN_take (i := 3) (v := ?_) rfl (by kernel_rfl) (by kernel_rfl) (by kernel_rfl) (by kernel_rfl) (fun _ _ _ h => h) (Or.inl ⟨by rfl, ?_⟩) (by assumption) ?_
          rotate_left
          · intro w hSw; ((try dsimp only at hSw); go_simp; (try with_reducible rfl))
          simp only [Act.put, List.setIfInBounds_toArray, List.set_cons_zero, List.set_cons_succ]
          refine wpAnyN_take (i := 4) (v := ?_) rfl (by kernel_rfl) (by kernel_rfl) (by kernel_rfl) (by kernel_rfl) (fun _ _ _ h => h) (Or.inl ⟨by rfl, ?_⟩) (by assumption) ?_
          rotate_left
          · intro w hSw; ((try dsimp only at hSw); go_simp; (try with_reducible rfl))
          simp only [Act.put, List.setIfInBounds_toArray, List.set_cons_zero, List.set_cons_succ]
          refine wpAnyN_take (i := 5) (v := ?_) rfl (by kernel_rfl) (by kernel_rfl) (by kernel_rfl) (by kernel_rfl) (fun _ _ _ h => h) (Or.inl ⟨by rfl, ?_⟩) (by assumption) ?_
          rotate_left
          · intro w hSw; ((try dsimp only at hSw); go_simp; (try with_reducible rfl))
          simp only [Act.put, List.setIfInBounds_toArray, List.set_cons_zero, List.set_cons_succ]
          refine wpAnyN_take (i := 6) (v := ?_) rfl (by kernel_rfl) (by kernel_rfl) (by kernel_rfl) (by kernel_rfl) (fun _ _ _ h => h) (Or.inl ⟨by rfl, ?_⟩) (by assumption) ?_
          rotate_left
          · intro w hSw; ((try dsimp only at hSw); go_simp; (try with_reducible rfl))
          simp only [Act.put, List.setIfInBounds_toArray, List.set_cons_zero, List.set_cons_succ]
          refine wpAnyN_take (i := 7) (v := ?_) rfl (by kernel_rfl) (by kernel_rfl) (by kernel_rfl) (by kernel_rfl) (fun _ _ _ h => h) (Or.inl ⟨by rfl, ?_⟩) (by assumption) ?_
          rotate_left
          · intro w hSw; ((try dsimp only at hSw); go_simp; (try with_reducible rfl))
          simp only [Act.put, List.setIfInBounds_toArray, List.set_cons_zero, List.set_cons_succ]
          refine wpAnyN_take (i := 8) (v := ?_) rfl (by kernel_rfl) (by kernel_rfl) (by kernel_rfl) (by kernel_rfl) (fun _ _ _ h => h) (Or.inl ⟨by rfl, ?_⟩) (by assumption) ?_
          rotate_left
          · intro w hSw; ((try dsimp only at hSw); go_simp; (try with_reducible rfl))
          simp only [Act.put, List.setIfInBounds_toArray, List.set_cons_zero, List.set_cons_succ]
          refine wpAnyN_take (i := 9) (v := ?_) rfl (by kernel_rfl) (by kernel_rfl) (by kernel_rfl) (by kernel_rfl) (fun _ _ _ h => h) (Or.inl ⟨by rfl, ?_⟩) (by assumption) ?_
          rotate_left
          · intro w hSw; ((try dsimp only at hSw); go_simp; (try with_reducible rfl))
          simp only [Act.put, List.setIfInBounds_toArray, List.set_cons_zero, List.set_cons_succ]
          refine wpAnyN_take (i := 10) (v := ?_) rfl (by kernel_rfl) (by kernel_rfl) (by kernel_rfl) (by kernel_rfl) (fun _ _ _ h => h) (Or.inl ⟨by rfl, ?_⟩) (by assumption) ?_
          rotate_left
          · intro w hSw; ((try dsimp only at hSw); go_simp; (try with_reducible rfl))
          simp only [Act.put, List.setIfInBounds_toArray, List.set_cons_zero, List.set_cons_succ]
          refine wpAnyN_take (i := 11) (v := ?_) rfl (by kernel_rfl) (by kernel_rfl) (by kernel_rfl) (by kernel_rfl) (fun _ _ _ h => h) (Or.inl ⟨by rfl, ?_⟩) (by assumption) ?_
          rotate_left
          · intro w hSw; ((try dsimp only at hSw); go_simp; (try with_reducible rfl))
          simp only [Act.put, List.setIfInBounds_toArray, List.set_cons_zero, List.set_cons_succ]
          refine wpAnyN_take (i := 12) (v := ?_) rfl (by kernel_rfl) (by kernel_rfl) (by kernel_rfl) (by kernel_rfl) (fun _ _ _ h => h) (Or.inl ⟨by rfl, ?_⟩) (by assumption) ?_
          rotate_left
          · intro w hSw; ((try dsimp only at hSw); go_simp; (try with_reducible rfl))
          simp only [Act.put, List.setIfInBounds_toArray, List.set_cons_zero, List.set_cons_succ]
          refine wpAnyN_take (i := 13) (v := ?_) rfl (by kernel_rfl) (by kernel_rfl) (by kernel_rfl) (by kernel_rfl) (fun _ _ _ h => h) (Or.inl ⟨by rfl, ?_⟩) (by assumption) ?_
          rotate_left
          · intro w hSw; ((try dsimp only at hSw); go_simp; (try with_reducible rfl))
          simp only [Act.put, List.setIfInBounds_toArray, List.set_cons_zero, List.set_cons_succ]
          refine wpAnyN_take (i := 14) (v := ?_) rfl (by kernel_rfl) (by kernel_rfl) (by kernel_rfl) (by kernel_rfl) (fun _ _ _ h => h) (Or.inl ⟨by rfl, ?_⟩) (by assumption) ?_
          rotate_left
          · intro w hSw; ((try dsimp only at hSw); go_simp; (try with_reducible rfl))
          simp only [Act.put, List.setIfInBounds_toArray, List.set_cons_zero, List.set_cons_succ]
          refine wpAnyN_take (i := 15) (v := ?_) rfl (by kernel_rfl) (by kernel_rfl) (by kernel_rfl) (by kernel_rfl) (fun _ _ _ h => h) (Or.inl ⟨by rfl, ?_⟩) (by assumption) ?_
          rotate_left
          · intro w hSw; ((try dsimp only at hSw); go_simp; (try with_reducible rfl))
          simp only [Act.put, List.setIfInBounds_toArray, List.set_cons_zero, List.set_cons_succ]
          refine wpAnyN_take (i := 16) (v := ?_) rfl (by kernel_rfl) (by kernel_rfl) (by kernel_rfl) (by kernel_rfl) (fun _ _ _ h => h) (Or.inl ⟨by rfl, ?_⟩) (by assumption) ?_
          rotate_left
          · intro w hSw; ((try dsimp only at hSw); go_simp; (try with_reducible rfl))
          simp only [Act.put, List.setIfInBounds_toArray, List.set_cons_zero, List.set_cons_succ]
          refine wpAnyN_take (i := 17) (v := ?_) rfl (by kernel_rfl) (by kernel_rfl) (by kernel_rfl) (by kernel_rfl) (fun _ _ _ h => h) (Or.inl ⟨by rfl, ?_⟩) (by assumption) ?_
          rotate_left
          · intro w hSw; ((try dsimp only at hSw); go_simp; (try with_reducible rfl))
          simp only [Act.put, List.setIfInBounds_toArray, List.set_cons_zero, List.set_cons_succ]
          refine wpAnyN_take (i := 18) (v := ?_) rfl (by kernel_rfl) (by kernel_rfl) (by kernel_rfl) (by kernel_rfl) (fun _ _ _ h => h) (Or.inl ⟨by rfl, ?_⟩) (by assumption) ?_
          rotate_left
          · intro w hSw; ((try dsimp only at hSw); go_simp; (try with_reducible rfl))
          simp only [Act.put, List.setIfInBounds_toArray, List.set_cons_zero, List.set_cons_succ]
          refine wpAnyN_take (i := 19) (v := ?_) rfl (by kernel_rfl) (by kernel_rfl) (by kernel_rfl) (by kernel_rfl) (fun _ _ _ h => h) (Or.inl ⟨by rfl, ?_⟩) (by assumption) ?_
          rotate_left
          · intro w hSw; ((try dsimp only at hSw); go_simp; (try with_reducible rfl))
          simp only [Act.put, List.setIfInBounds_toArray, List.set_cons_zero, List.set_cons_succ]
          have cpgd : wr.drew.cell? ⟨pg, xa, none⟩ = some _ := cpg
          have fpgd : wr.drew.frozen? ⟨pg, xa, none⟩ = false := fpg
          refine wpAnyN_one (i := 20) rfl (by kernel_rfl) ?_
          go_wp2_with fail
          refine ⟨fun _ => hHeld, ?_⟩
          refine wpAnyN_one (i := 21) rfl (by kernel_rfl) ?_
          unfold str at cpgd ⊢
          go_wp2_with fail
          refine ⟨fun h => by simp at h, ?_⟩
          refine wpAnyN_done (by kernel_rfl) ?_ _
          have hsetH' : Hid (RefMid w o E p pg pc (.slice (some ⟨g, 0, none⟩) d1.row.length cap) d1 (DiskM.donePages (fun _ => 512) d1.pages (d1.row.take (k + 1))) (wr.drew.setCell ⟨pg, xa, none⟩ (.string ⟨xl.toArray⟩)) o1) := hsetH
          clear hsetH
          go_wp2_with fail
          go_roundw
          case rel => exact ⟨k + 1, hlt, by go_num, hsetH'.out⟩
          case measure => simp [intOf]; omega
        · have hk' : k = d1.row.length := by omega
          subst hk'
          rw [List.take_length] at hm
          have hfin := hm.done hwfH.out (hPWH.out d1.row hw4H.out)
          subst hrv
          have hfinH := hidden hfin
          clear hfin hm
          go_wp2_with fail
          go_ret
          exact ⟨_, o1, rfl, hfinH.out.2, rfl, hfinH.out.1⟩
    · rw [if_pos he]
      have he9 := hnine he
      subst he9
      go_enter Try.func73, Try.ntmps73
      go_wp2_with ((with_reducible refine (counts_is h hc).mono ?_); rintro e w1 ⟨v1, o1, rfl, hs1, rfl, hd1⟩)
      go_ret
      exact ⟨_, o1, rfl, hs1, rfl, hd1⟩

theorem fate_tmod (a : Int) (h : ¬ a.tmod 513 < 0) : a.tmod 513 = a % 513 := by
  rw [Int.tmod_eq_emod] at *
  split at h <;> rename_i hx
  · rw [if_pos hx]; omega
  · rw [if_neg hx]; simp at *; omega
theorem fate_tmod_neg (a : Int) (h : a.tmod 513 < 0) : a.tmod 513 + 513 = a % 513 := by
  rw [Int.tmod_eq_emod] at *
  split at h <;> rename_i hx
  · omega
  · rw [if_neg hx]; simp

set_option maxRecDepth 100000 in
set_option maxHeartbeats 3200000 in
theorem rrestart_any {w : World} {o : Own} {E p : Nat} {d : DiskM} (h : RefAt w o E p d) (hE0 : E ≠ 0) (hrow : d.row.length ≤ 1000000) (fv : Value) (l : List Int) (hl : Ints w o fv l) (hwf : ∀ a ∈ l, -9223372036854775808 ≤ a ∧ a ≤ 9223372036854775807) :
    Calls Try.prog 75 #[.pointer (some ⟨p, 0, none⟩), fv] w (Ret (Only E) w o fun v w' o' => v = .tuple #[] ∧ RefAt w' o' E p (d.restart l)) := by
  obtain ⟨hw1, hw2, -, -, -, -⟩ := h.wf
  have hlm : (l.length : Int) ≤ 9223372036854775807 := by
    rcases hl with ⟨_, hn, _⟩ | ⟨b, off, cap, hv, hlc, hm, _⟩
    · omega
    · unfold maxLen at hm; omega
  have hlA := hidden hl
  obtain ⟨fa, fc, rfl⟩ := slc_form hl
  clear hl
  have hwf1 := h.wf
  obtain ⟨pg, pc, rv1, hmid⟩ := h.mid (Step.refl (Only E) w o)
  have hPW := DiskM.donePages_wf (DiskM.fate l) (DiskM.fate_le l) d.pages hwf1.2.2.1
  have hw4 := hwf1.2.2.2.1
  have hwfH := hidden hwf1
  have hw4H := hidden hw4
  have hPWH := hidden hPW
  have hmid0 : RefMid w o E p pg pc rv1 d (DiskM.donePages (DiskM.fate l) d.pages (d.row.take 0)) w o := hmid
  have hflH := hidden hwf
  clear hwf1 hPW hw4 hmid hwf
  have hN : ¬ Only E 0 := fun h => hE0 h.symm
  go_enter Try.func75, Try.ntmps75
  go_wp2_with fail
  go_loopw [4, 5, 6] (fun i n q wr => ∃ k : Nat, k ≤ d.row.length ∧ i = .int .i64 k ∧ RefMid w o E p pg pc rv1 d (DiskM.donePages (DiskM.fate l) d.pages (d.row.take k)) wr o)
    (fun i _ _ _ => d.row.length - (intOf i).toNat)
  case atStart => exact ⟨0, Nat.zero_le _, rfl, hmid0⟩
  case round =>
    obtain ⟨k, hk, rfl, hm⟩ := hrel
    obtain ⟨cr, fr, ra, rc, hrv⟩ := hm.len
    by_cases hlt : k < d.row.length
    · have hsn := donePages_take (DiskM.fate l) d.pages d.row k hlt
      have hx := hw4H.out d.row[k] (List.getElem_mem hlt)
      have hPk := hPWH.out (d.row.take k) (fun x hx => hw4H.out x (List.mem_of_mem_take hx))
      obtain ⟨c0, g, cap, hrv2, c1, e1, e2⟩ := hm.cells k hlt
      generalize hpk : DiskM.donePages (DiskM.fate l) d.pages (d.row.take k) = pk at *
      have hpgk := hm.page d.row[k].1 (by rw [hPk.1]; exact hx.1) hPk.1
      have hold : (pk.getD d.row[k].1 []).length = 512 := DiskM.getD_wf hPk.2 (by rw [hPk.1]; exact hx.1)
      have hfl := DiskM.fate_le l k
      rw [DiskM.splicePage] at hsn
      have hset := hm.drew.set d.row[k].1 (d.row[k].2.take (DiskM.fate l k) ++ (pk.getD d.row[k].1 []).drop (DiskM.fate l k))
      rw [← hsn] at hset
      have hints : Ints wr o (.slice fa l.length fc) l := hlA.out.step hm.1 hN
      subst hrv2
      simp only [Value.slice.injEq, true_and] at hrv
      obtain ⟨rfl, rfl⟩ := hrv
      have hx1 := hx.1
      have hx2 := hidden hx.2
      have holdH := hidden hold
      have hsetH := hidden hset
      clear hset hsn hPk hx hm cr fr hold
      obtain ⟨cpg, fpg⟩ := hpgk
      clear hpk
      generalize pk.getD d.row[k].1 [] = page at *
      generalize d.row[k] = x at *
      obtain ⟨xa, xl⟩ := x
      simp only at e1 e2 hsetH cpg fpg hx1 hx2
      -- the fate
      have hfate : ∃ f : Nat, f = DiskM.fate l k ∧ f ≤ 512 := ⟨_, rfl, hfl⟩
      obtain ⟨f, hf, hf512⟩ := hfate
      rw [← hf] at hsetH hfl
      have rest : Hid (∀ W : World, W = wr.drew → True) := fun _ _ => trivial
      by_cases hkl : k < l.length
      · obtain ⟨b, off, hb1, hci⟩ : ∃ b off, fa = some ⟨b, off, none⟩ ∧ wr.cell? ⟨b, off + k, none⟩ = some (.int .i64 l[k]) := by
          rcases hints with ⟨_, hn, _⟩ | ⟨b, off, cap, hv, hlc, hm, ho, hb, hr⟩
          · omega
          · simp only [Value.slice.injEq, true_and] at hv
            exact ⟨b, off, hv.1, hr k _ (by simp [ivs, hkl])⟩
        subst hb1
        have hbd := hflH.out l[k] (List.getElem_mem hkl)
        have hfe : (f : Int) = l[k] % 513 := by
          rw [hf]
          simp only [DiskM.fate, List.getD_eq_getElem?_getD, List.getElem?_eq_getElem hkl, Option.getD_some]
          omega
        generalize l[k] = a at *
        have b1 := hbd.1
        have b2 := hbd.2
        clear hbd hints
        have g1 : -513 < a.tmod 513 := by have := Int.tmod_lt_of_pos a (show (0:Int) < 513 by omega); have h2 := Int.lt_tmod_of_pos a (show (0:Int) < 513 by omega); omega
        have g2 : a.tmod 513 < 513 := Int.tmod_lt_of_pos a (by omega)
        by_cases hneg : a.tmod 513 < 0
        · have ht := fate_tmod_neg a hneg
          rw [← hfe] at ht
          have htH := hidden ht
          have hfeH := hidden hfe
          clear ht hfe hf
          go_wp2_with fail
          rw [htH.out]
          clear hneg g1 g2 htH hfeH b1 b2 hci
          refine wp_region_need (fun w' => w'.cell? ⟨p, 0, none⟩ = some (.slice (some ⟨pg, 0, none⟩) d.pages.length pc) ∧ w'.cell? ⟨p, 1, none⟩ = some (.slice (some ⟨g, 0, none⟩) d.row.length cap) ∧
            w'.cell? ⟨g, k * 2 + 1, none⟩ = some (str xl) ∧ w'.cell? ⟨pg, xa, none⟩ = some (str page)) (fun i => decide (i < 26)) (by kernel_rfl) ⟨c0, c1, e2, cpg⟩ (fun hHeld => ?_)
          refine wpAnyN_take (i := 0) (v := ?_) rfl (by kernel_rfl) (by kernel_rfl) (by kernel_rfl) (by kernel_rfl) (fun _ _ _ h => h) (Or.inl ⟨by rfl, ?_⟩) (by assumption) ?_
          rotate_left
          · intro w hSw; ((try dsimp only at hSw); go_simp; (try with_reducible rfl))
          simp only [Act.put, List.setIfInBounds_toArray, List.set_cons_zero, List.set_cons_succ]
          refine wpAnyN_take (i := 1) (v := ?_) rfl (by kernel_rfl) (by kernel_rfl) (by kernel_rfl) (by kernel_rfl) (fun _ _ _ h => h) (Or.inl ⟨by rfl, ?_⟩) (by assumption) ?_
          rotate_left
          · intro w hSw; ((try dsimp only at hSw); go_simp; (try with_reducible rfl))
          simp only [Act.put, List.setIfInBounds_toArray, List.set_cons_zero, List.set_cons_succ]
          refine wpAnyN_take (i := 2) (v := ?_) rfl (by kernel_rfl) (by kernel_rfl) (by kernel_rfl) (by kernel_rfl) (fun _ _ _ h => h) (Or.inl ⟨by rfl, ?_⟩) (by assumption) ?_
          rotate_left
          · intro w hSw; ((try dsimp only at hSw); go_simp; (try with_reducible rfl))
          simp only [Act.put, List.setIfInBounds_toArray, List.set_cons_zero, List.set_cons_succ]
          refine wpAnyN_take (i := 3) (v := ?_) rfl (by kernel_rfl) (by kernel_rfl) (by kernel_rfl) (by kernel_rfl) (fun _ _ _ h => h) (Or.inl ⟨by rfl, ?_⟩) (by assumption) ?_
          rotate_left
          · intro w hSw; ((try dsimp only at hSw); go_simp; (try with_reducible rfl))
          simp only [Act.put, List.setIfInBounds_toArray, List.set_cons_zero, List.set_cons_succ]
          refine wpAnyN_take (i := 4) (v := ?_) rfl (by kernel_rfl) (by kernel_rfl) (by kernel_rfl) (by kernel_rfl) (fun _ _ _ h => h) (Or.inl ⟨by rfl, ?_⟩) (by assumption) ?_
          rotate_left
          · intro w hSw; ((try dsimp only at hSw); go_simp; (try with_reducible rfl))
          simp only [Act.put, List.setIfInBounds_toArray, List.set_cons_zero, List.set_cons_succ]
          refine wpAnyN_take (i := 5) (v := ?_) rfl (by kernel_rfl) (by kernel_rfl) (by kernel_rfl) (by kernel_rfl) (fun _ _ _ h => h) (Or.inl ⟨by rfl, ?_⟩) (by assumption) ?_
          rotate_left
          · intro w hSw; ((try dsimp only at hSw); go_simp; (try with_reducible rfl))
          simp only [Act.put, List.setIfInBounds_toArray, List.set_cons_zero, List.set_cons_succ]
          refine wpAnyN_take (i := 6) (v := ?_) rfl (by kernel_rfl) (by kernel_rfl) (by kernel_rfl) (by kernel_rfl) (fun _ _ _ h => h) (Or.inl ⟨by rfl, ?_⟩) (by assumption) ?_
          rotate_left
          · intro w hSw; ((try dsimp only at hSw); go_simp; (try with_reducible rfl))
          simp only [Act.put, List.setIfInBounds_toArray, List.set_cons_zero, List.set_cons_succ]
          refine wpAnyN_take (i := 7) (v := ?_) rfl (by kernel_rfl) (by kernel_rfl) (by kernel_rfl) (by kernel_rfl) (fun _ _ _ h => h) (Or.inl ⟨by rfl, ?_⟩) (by assumption) ?_
          rotate_left
          · intro w hSw; ((try dsimp only at hSw); go_simp; (try with_reducible rfl))
          simp only [Act.put, List.setIfInBounds_toArray, List.set_cons_zero, List.set_cons_succ]
          refine wpAnyN_take (i := 8) (v := ?_) rfl (by kernel_rfl) (by kernel_rfl) (by kernel_rfl) (by kernel_rfl) (fun _ _ _ h => h) (Or.inl ⟨by rfl, ?_⟩) (by assumption) ?_
          rotate_left
          · intro w hSw; ((try dsimp only at hSw); go_simp; (try with_reducible rfl))
          simp only [Act.put, List.setIfInBounds_toArray, List.set_cons_zero, List.set_cons_succ]
          refine wpAnyN_take (i := 9) (v := ?_) rfl (by kernel_rfl) (by kernel_rfl) (by kernel_rfl) (by kernel_rfl) (fun _ _ _ h => h) (Or.inl ⟨by rfl, ?_⟩) (by assumption) ?_
          rotate_left
          · intro w hSw; ((try dsimp only at hSw); go_simp; (try with_reducible rfl))
          simp only [Act.put, List.setIfInBounds_toArray, List.set_cons_zero, List.set_cons_succ]
          refine wpAnyN_take (i := 10) (v := ?_) rfl (by kernel_rfl) (by kernel_rfl) (by kernel_rfl) (by kernel_rfl) (fun _ _ _ h => h) (Or.inl ⟨by rfl, ?_⟩) (by assumption) ?_
          rotate_left
          · intro w hSw; ((try dsimp only at hSw); go_simp; (try with_reducible rfl))
          simp only [Act.put, List.setIfInBounds_toArray, List.set_cons_zero, List.set_cons_succ]
          refine wpAnyN_take (i := 11) (v := ?_) rfl (by kernel_rfl) (by kernel_rfl) (by kernel_rfl) (by kernel_rfl) (fun _ _ _ h => h) (Or.inl ⟨by rfl, ?_⟩) (by assumption) ?_
          rotate_left
          · intro w hSw; ((try dsimp only at hSw); go_simp; (try with_reducible rfl))
          simp only [Act.put, List.setIfInBounds_toArray, List.set_cons_zero, List.set_cons_succ]
          refine wpAnyN_take (i := 12) (v := ?_) rfl (by kernel_rfl) (by kernel_rfl) (by kernel_rfl) (by kernel_rfl) (fun _ _ _ h => h) (Or.inl ⟨by rfl, ?_⟩) (by assumption) ?_
          rotate_left
          · intro w hSw; ((try dsimp only at hSw); go_simp; (try with_reducible rfl))
          simp only [Act.put, List.setIfInBounds_toArray, List.set_cons_zero, List.set_cons_succ]
          refine wpAnyN_take (i := 13) (v := ?_) rfl (by kernel_rfl) (by kernel_rfl) (by kernel_rfl) (by kernel_rfl) (fun _ _ _ h => h) (Or.inl ⟨by rfl, ?_⟩) (by assumption) ?_
          rotate_left
          · intro w hSw; ((try dsimp only at hSw); go_simp; (try with_reducible rfl))
          simp only [Act.put, List.setIfInBounds_toArray, List.set_cons_zero, List.set_cons_succ]
          refine wpAnyN_take (i := 14) (v := str (xl.take f)) rfl (by kernel_rfl) (by kernel_rfl) (by kernel_rfl) (by kernel_rfl) (fun _ _ _ h => h) (yields_run rfl (fun w hSw => ?_)) (by assumption) ?_
          · refine exec_slice 9 (.tmp 49) none (some (.tmp 50)) none rfl ?_
            exact (run_str_take w xl f (by have := hx2.out; omega))
          simp only [Act.put, List.setIfInBounds_toArray, List.set_cons_zero, List.set_cons_succ]
          refine wpAnyN_take (i := 15) (v := ?_) rfl (by kernel_rfl) (by kernel_rfl) (by kernel_rfl) (by kernel_rfl) (fun _ _ _ h => h) (Or.inl ⟨by rfl, ?_⟩) (by assumption) ?_
          rotate_left
          · intro w hSw; ((try dsimp only at hSw); go_simp; (try with_reducible rfl))
          simp only [Act.put, List.setIfInBounds_toArray, List.set_cons_zero, List.set_cons_succ]
          refine wpAnyN_take (i := 16) (v := ?_) rfl (by kernel_rfl) (by kernel_rfl) (by kernel_rfl) (by kernel_rfl) (fun _ _ _ h => h) (Or.inl ⟨by rfl, ?_⟩) (by assumption) ?_
          rotate_left
          · intro w hSw; ((try dsimp only at hSw); go_simp; (try with_reducible rfl))
          simp only [Act.put, List.setIfInBounds_toArray, List.set_cons_zero, List.set_cons_succ]
          refine wpAnyN_take (i := 17) (v := ?_) rfl (by kernel_rfl) (by kernel_rfl) (by kernel_rfl) (by kernel_rfl) (fun _ _ _ h => h) (Or.inl ⟨by rfl, ?_⟩) (by assumption) ?_
          rotate_left
          · intro w hSw; ((try dsimp only at hSw); go_simp; (try with_reducible rfl))
          simp only [Act.put, List.setIfInBounds_toArray, List.set_cons_zero, List.set_cons_succ]
          refine wpAnyN_take (i := 18) (v := ?_) rfl (by kernel_rfl) (by kernel_rfl) (by kernel_rfl) (by kernel_rfl) (fun _ _ _ h => h) (Or.inl ⟨by rfl, ?_⟩) (by assumption) ?_
          rotate_left
          · intro w hSw; ((try dsimp only at hSw); go_simp; (try with_reducible rfl))
          simp only [Act.put, List.setIfInBounds_toArray, List.set_cons_zero, List.set_cons_succ]
          refine wpAnyN_take (i := 19) (v := ?_) rfl (by kernel_rfl) (by kernel_rfl) (by kernel_rfl) (by kernel_rfl) (fun _ _ _ h => h) (Or.inl ⟨by rfl, ?_⟩) (by assumption) ?_
          rotate_left
          · intro w hSw; ((try dsimp only at hSw); go_simp; (try with_reducible rfl))
          simp only [Act.put, List.setIfInBounds_toArray, List.set_cons_zero, List.set_cons_succ]
          refine wpAnyN_take (i := 20) (v := ?_) rfl (by kernel_rfl) (by kernel_rfl) (by kernel_rfl) (by kernel_rfl) (fun _ _ _ h => h) (Or.inl ⟨by rfl, ?_⟩) (by assumption) ?_
          rotate_left
          · intro w hSw; ((try dsimp only at hSw); go_simp; (try with_reducible rfl))
          simp only [Act.put, List.setIfInBounds_toArray, List.set_cons_zero, List.set_cons_succ]
          refine wpAnyN_take (i := 21) (v := ?_) rfl (by kernel_rfl) (by kernel_rfl) (by kernel_rfl) (by kernel_rfl) (fun _ _ _ h => h) (Or.inl ⟨by rfl, ?_⟩) (by assumption) ?_
          rotate_left
          · intro w hSw; ((try dsimp only at hSw); go_simp; (try with_reducible rfl))
          simp only [Act.put, List.setIfInBounds_toArray, List.set_cons_zero, List.set_cons_succ]
          refine wpAnyN_take (i := 22) (v := ?_) rfl (by kernel_rfl) (by kernel_rfl) (by kernel_rfl) (by kernel_rfl) (fun _ _ _ h => h) (Or.inl ⟨by rfl, ?_⟩) (by assumption) ?_
          rotate_left
          · intro w hSw; ((try dsimp only at hSw); go_simp; (try with_reducible rfl))
          simp only [Act.put, List.setIfInBounds_toArray, List.set_cons_zero, List.set_cons_succ]
          refine wpAnyN_take (i := 23) (v := str (page.drop f)) rfl (by kernel_rfl) (by kernel_rfl) (by kernel_rfl) (by kernel_rfl) (fun _ _ _ h => h) (yields_run rfl (fun w hSw => ?_)) (by assumption) ?_
          · refine exec_slice 9 (.tmp 58) (some (.tmp 59)) none none rfl ?_
            exact (run_str_drop w page f (by have := holdH.out; omega))
          simp only [Act.put, List.setIfInBounds_toArray, List.set_cons_zero, List.set_cons_succ]
          refine wpAnyN_take (i := 24) (v := str (xl.take f ++ page.drop f)) rfl (by kernel_rfl) (by kernel_rfl) (by kernel_rfl) (by kernel_rfl) (fun _ _ _ h => h) (yields_run rfl (fun w hSw => ?_)) (by assumption) ?_
          · refine exec_add 9 9 (.tmp 51) (.tmp 60) rfl ?_
            exact (run_str_add w (xl.take f) (page.drop f) (by have := hx2.out; have := holdH.out; rw [List.length_take, List.length_drop]; omega))
          simp only [Act.put, List.setIfInBounds_toArray, List.set_cons_zero, List.set_cons_succ]
          have cpgd : wr.drew.cell? ⟨pg, xa, none⟩ = some _ := cpg
          have fpgd : wr.drew.frozen? ⟨pg, xa, none⟩ = false := fpg
          refine wpAnyN_one (i := 25) rfl (by kernel_rfl) ?_
          go_wp2_with fail
          refine ⟨fun _ => hHeld, ?_⟩
          refine wpAnyN_one (i := 26) rfl (by kernel_rfl) ?_
          have hsetH' : Hid (RefMid w o E p pg pc (.slice (some ⟨g, 0, none⟩) d.row.length cap) d (DiskM.donePages (DiskM.fate l) d.pages (d.row.take (k + 1))) (wr.drew.setCell ⟨pg, xa, none⟩ (str (xl.take f ++ page.drop f))) o) := hsetH
          clear hsetH
          generalize xl.take f ++ page.drop f = nw at *
          unfold str at cpgd hsetH' ⊢
          go_wp2_with fail
          refine ⟨fun h => by simp at h, ?_⟩
          refine wpAnyN_done (by kernel_rfl) ?_ _
          go_wp2_with fail
          go_roundw
          case rel => exact ⟨k + 1, hlt, by go_num, hsetH'.out⟩
          case measure => simp [intOf]; omega
        · have ht := fate_tmod a hneg
          rw [← hfe] at ht
          have htH := hidden ht
          have hfeH := hidden hfe
          clear ht hfe hf
          go_wp2_with fail
          rw [htH.out]
          clear hneg g1 g2 htH hfeH b1 b2 hci
          refine wp_region_need (fun w' => w'.cell? ⟨p, 0, none⟩ = some (.slice (some ⟨pg, 0, none⟩) d.pages.length pc) ∧ w'.cell? ⟨p, 1, none⟩ = some (.slice (some ⟨g, 0, none⟩) d.row.length cap) ∧
            w'.cell? ⟨g, k * 2 + 1, none⟩ = some (str xl) ∧ w'.cell? ⟨pg, xa, none⟩ = some (str page)) (fun i => decide (i < 26)) (by kernel_rfl) ⟨c0, c1, e2, cpg⟩ (fun hHeld => ?_)
          refine wpAnyN_take (i := 0) (v := ?_) rfl (by kernel_rfl) (by kernel_rfl) (by kernel_rfl) (by kernel_rfl) (fun _ _ _ h => h) (Or.inl ⟨by rfl, ?_⟩) (by assumption) ?_
          rotate_left
          · intro w hSw; ((try dsimp only at hSw); go_simp; (try with_reducible rfl))
          simp only [Act.put, List.setIfInBounds_toArray, List.set_cons_zero, List.set_cons_succ]
          refine wpAnyN_take (i := 1) (v := ?_) rfl (by kernel_rfl) (by kernel_rfl) (by kernel_rfl) (by kernel_rfl) (fun _ _ _ h => h) (Or.inl ⟨by rfl, ?_⟩) (by assumption) ?_
          rotate_left
          · intro w hSw; ((try dsimp only at hSw); go_simp; (try with_reducible rfl))
          simp only [Act.put, List.setIfInBounds_toArray, List.set_cons_zero, List.set_cons_succ]
          refine wpAnyN_take (i := 2) (v := ?_) rfl (by kernel_rfl) (by kernel_rfl) (by kernel_rfl) (by kernel_rfl) (fun _ _ _ h => h) (Or.inl ⟨by rfl, ?_⟩) (by assumption) ?_
          rotate_left
          · intro w hSw; ((try dsimp only at hSw); go_simp; (try with_reducible rfl))
          simp only [Act.put, List.setIfInBounds_toArray, List.set_cons_zero, List.set_cons_succ]
          refine wpAnyN_take (i := 3) (v := ?_) rfl (by kernel_rfl) (by kernel_rfl) (by kernel_rfl) (by kernel_rfl) (fun _ _ _ h => h) (Or.inl ⟨by rfl, ?_⟩) (by assumption) ?_
          rotate_left
          · intro w hSw; ((try dsimp only at hSw); go_simp; (try with_reducible rfl))
          simp only [Act.put, List.setIfInBounds_toArray, List.set_cons_zero, List.set_cons_succ]
          refine wpAnyN_take (i := 4) (v := ?_) rfl (by kernel_rfl) (by kernel_rfl) (by kernel_rfl) (by kernel_rfl) (fun _ _ _ h => h) (Or.inl ⟨by rfl, ?_⟩) (by assumption) ?_
          rotate_left
          · intro w hSw; ((try dsimp only at hSw); go_simp; (try with_reducible rfl))
          simp only [Act.put, List.setIfInBounds_toArray, List.set_cons_zero, List.set_cons_succ]
          refine wpAnyN_take (i := 5) (v := ?_) rfl (by kernel_rfl) (by kernel_rfl) (by kernel_rfl) (by kernel_rfl) (fun _ _ _ h => h) (Or.inl ⟨by rfl, ?_⟩) (by assumption) ?_
          rotate_left
          · intro w hSw; ((try dsimp only at hSw); go_simp; (try with_reducible rfl))
          simp only [Act.put, List.setIfInBounds_toArray, List.set_cons_zero, List.set_cons_succ]
          refine wpAnyN_take (i := 6) (v := ?_) rfl (by kernel_rfl) (by kernel_rfl) (by kernel_rfl) (by kernel_rfl) (fun _ _ _ h => h) (Or.inl ⟨by rfl, ?_⟩) (by assumption) ?_
          rotate_left
          · intro w hSw; ((try dsimp only at hSw); go_simp; (try with_reducible rfl))
          simp only [Act.put, List.setIfInBounds_toArray, List.set_cons_zero, List.set_cons_succ]
          refine wpAnyN_take (i := 7) (v := ?_) rfl (by kernel_rfl) (by kernel_rfl) (by kernel_rfl) (by kernel_rfl) (fun _ _ _ h => h) (Or.inl ⟨by rfl, ?_⟩) (by assumption) ?_
          rotate_left
          · intro w hSw; ((try dsimp only at hSw); go_simp; (try with_reducible rfl))
          simp only [Act.put, List.setIfInBounds_toArray, List.set_cons_zero, List.set_cons_succ]
          refine wpAnyN_take (i := 8) (v := ?_) rfl (by kernel_rfl) (by kernel_rfl) (by kernel_rfl) (by kernel_rfl) (fun _ _ _ h => h) (Or.inl ⟨by rfl, ?_⟩) (by assumption) ?_
          rotate_left
          · intro w hSw; ((try dsimp only at hSw); go_simp; (try with_reducible rfl))
          simp only [Act.put, List.setIfInBounds_toArray, List.set_cons_zero, List.set_cons_succ]
          refine wpAnyN_take (i := 9) (v := ?_) rfl (by kernel_rfl) (by kernel_rfl) (by kernel_rfl) (by kernel_rfl) (fun _ _ _ h => h) (Or.inl ⟨by rfl, ?_⟩) (by assumption) ?_
          rotate_left
          · intro w hSw; ((try dsimp only at hSw); go_simp; (try with_reducible rfl))
          simp only [Act.put, List.setIfInBounds_toArray, List.set_cons_zero, List.set_cons_succ]
          refine wpAnyN_take (i := 10) (v := ?_) rfl (by kernel_rfl) (by kernel_rfl) (by kernel_rfl) (by kernel_rfl) (fun _ _ _ h => h) (Or.inl ⟨by rfl, ?_⟩) (by assumption) ?_
          rotate_left
          · intro w hSw; ((try dsimp only at hSw); go_simp; (try with_reducible rfl))
          simp only [Act.put, List.setIfInBounds_toArray, List.set_cons_zero, List.set_cons_succ]
          refine wpAnyN_take (i := 11) (v := ?_) rfl (by kernel_rfl) (by kernel_rfl) (by kernel_rfl) (by kernel_rfl) (fun _ _ _ h => h) (Or.inl ⟨by rfl, ?_⟩) (by assumption) ?_
          rotate_left
          · intro w hSw; ((try dsimp only at hSw); go_simp; (try with_reducible rfl))
          simp only [Act.put, List.setIfInBounds_toArray, List.set_cons_zero, List.set_cons_succ]
          refine wpAnyN_take (i := 12) (v := ?_) rfl (by kernel_rfl) (by kernel_rfl) (by kernel_rfl) (by kernel_rfl) (fun _ _ _ h => h) (Or.inl ⟨by rfl, ?_⟩) (by assumption) ?_
          rotate_left
          · intro w hSw; ((try dsimp only at hSw); go_simp; (try with_reducible rfl))
          simp only [Act.put, List.setIfInBounds_toArray, List.set_cons_zero, List.set_cons_succ]
          refine wpAnyN_take (i := 13) (v := ?_) rfl (by kernel_rfl) (by kernel_rfl) (by kernel_rfl) (by kernel_rfl) (fun _ _ _ h => h) (Or.inl ⟨by rfl, ?_⟩) (by assumption) ?_
          rotate_left
          · intro w hSw; ((try dsimp only at hSw); go_simp; (try with_reducible rfl))
          simp only [Act.put, List.setIfInBounds_toArray, List.set_cons_zero, List.set_cons_succ]
          refine wpAnyN_take (i := 14) (v := str (xl.take f)) rfl (by kernel_rfl) (by kernel_rfl) (by kernel_rfl) (by kernel_rfl) (fun _ _ _ h => h) (yields_run rfl (fun w hSw => ?_)) (by assumption) ?_
          · refine exec_slice 9 (.tmp 49) none (some (.tmp 50)) none rfl ?_
            exact (run_str_take w xl f (by have := hx2.out; omega))
          simp only [Act.put, List.setIfInBounds_toArray, List.set_cons_zero, List.set_cons_succ]
          refine wpAnyN_take (i := 15) (v := ?_) rfl (by kernel_rfl) (by kernel_rfl) (by kernel_rfl) (by kernel_rfl) (fun _ _ _ h => h) (Or.inl ⟨by rfl, ?_⟩) (by assumption) ?_
          rotate_left
          · intro w hSw; ((try dsimp only at hSw); go_simp; (try with_reducible rfl))
          simp only [Act.put, List.setIfInBounds_toArray, List.set_cons_zero, List.set_cons_succ]
          refine wpAnyN_take (i := 16) (v := ?_) rfl (by kernel_rfl) (by kernel_rfl) (by kernel_rfl) (by kernel_rfl) (fun _ _ _ h => h) (Or.inl ⟨by rfl, ?_⟩) (by assumption) ?_
          rotate_left
          · intro w hSw; ((try dsimp only at hSw); go_simp; (try with_reducible rfl))
          simp only [Act.put, List.setIfInBounds_toArray, List.set_cons_zero, List.set_cons_succ]
          refine wpAnyN_take (i := 17) (v := ?_) rfl (by kernel_rfl) (by kernel_rfl) (by kernel_rfl) (by kernel_rfl) (fun _ _ _ h => h) (Or.inl ⟨by rfl, ?_⟩) (by assumption) ?_
          rotate_left
          · intro w hSw; ((try dsimp only at hSw); go_simp; (try with_reducible rfl))
          simp only [Act.put, List.setIfInBounds_toArray, List.set_cons_zero, List.set_cons_succ]
          refine wpAnyN_take (i := 18) (v := ?_) rfl (by kernel_rfl) (by kernel_rfl) (by kernel_rfl) (by kernel_rfl) (fun _ _ _ h => h) (Or.inl ⟨by rfl, ?_⟩) (by assumption) ?_
          rotate_left
          · intro w hSw; ((try dsimp only at hSw); go_simp; (try with_reducible rfl))
          simp only [Act.put, List.setIfInBounds_toArray, List.set_cons_zero, List.set_cons_succ]
          refine wpAnyN_take (i := 19) (v := ?_) rfl (by kernel_rfl) (by kernel_rfl) (by kernel_rfl) (by kernel_rfl) (fun _ _ _ h => h) (Or.inl ⟨by rfl, ?_⟩) (by assumption) ?_
          rotate_left
          · intro w hSw; ((try dsimp only at hSw); go_simp; (try with_reducible rfl))
          simp only [Act.put, List.setIfInBounds_toArray, List.set_cons_zero, List.set_cons_succ]
          refine wpAnyN_take (i := 20) (v := ?_) rfl (by kernel_rfl) (by kernel_rfl) (by kernel_rfl) (by kernel_rfl) (fun _ _ _ h => h) (Or.inl ⟨by rfl, ?_⟩) (by assumption) ?_
          rotate_left
          · intro w hSw; ((try dsimp only at hSw); go_simp; (try with_reducible rfl))
          simp only [Act.put, List.setIfInBounds_toArray, List.set_cons_zero, List.set_cons_succ]
          refine wpAnyN_take (i := 21) (v := ?_) rfl (by kernel_rfl) (by kernel_rfl) (by kernel_rfl) (by kernel_rfl) (fun _ _ _ h => h) (Or.inl ⟨by rfl, ?_⟩) (by assumption) ?_
          rotate_left
          · intro w hSw; ((try dsimp only at hSw); go_simp; (try with_reducible rfl))
          simp only [Act.put, List.setIfInBounds_toArray, List.set_cons_zero, List.set_cons_succ]
          refine wpAnyN_take (i := 22) (v := ?_) rfl (by kernel_rfl) (by kernel_rfl) (by kernel_rfl) (by kernel_rfl) (fun _ _ _ h => h) (Or.inl ⟨by rfl, ?_⟩) (by assumption) ?_
          rotate_left
          · intro w hSw; ((try dsimp only at hSw); go_simp; (try with_reducible rfl))
          simp only [Act.put, List.setIfInBounds_toArray, List.set_cons_zero, List.set_cons_succ]
          refine wpAnyN_take (i := 23) (v := str (page.drop f)) rfl (by kernel_rfl) (by kernel_rfl) (by kernel_rfl) (by kernel_rfl) (fun _ _ _ h => h) (yields_run rfl (fun w hSw => ?_)) (by assumption) ?_
          · refine exec_slice 9 (.tmp 58) (some (.tmp 59)) none none rfl ?_
            exact (run_str_drop w page f (by have := holdH.out; omega))
          simp only [Act.put, List.setIfInBounds_toArray, List.set_cons_zero, List.set_cons_succ]
          refine wpAnyN_take (i := 24) (v := str (xl.take f ++ page.drop f)) rfl (by kernel_rfl) (by kernel_rfl) (by kernel_rfl) (by kernel_rfl) (fun _ _ _ h => h) (yields_run rfl (fun w hSw => ?_)) (by assumption) ?_
          · refine exec_add 9 9 (.tmp 51) (.tmp 60) rfl ?_
            exact (run_str_add w (xl.take f) (page.drop f) (by have := hx2.out; have := holdH.out; rw [List.length_take, List.length_drop]; omega))
          simp only [Act.put, List.setIfInBounds_toArray, List.set_cons_zero, List.set_cons_succ]
          have cpgd : wr.drew.cell? ⟨pg, xa, none⟩ = some _ := cpg
          have fpgd : wr.drew.frozen? ⟨pg, xa, none⟩ = false := fpg
          refine wpAnyN_one (i := 25) rfl (by kernel_rfl) ?_
          go_wp2_with fail
          refine ⟨fun _ => hHeld, ?_⟩
          refine wpAnyN_one (i := 26) rfl (by kernel_rfl) ?_
          have hsetH' : Hid (RefMid w o E p pg pc (.slice (some ⟨g, 0, none⟩) d.row.length cap) d (DiskM.donePages (DiskM.fate l) d.pages (d.row.take (k + 1))) (wr.drew.setCell ⟨pg, xa, none⟩ (str (xl.take f ++ page.drop f))) o) := hsetH
          clear hsetH
          generalize xl.take f ++ page.drop f = nw at *
          unfold str at cpgd hsetH' ⊢
          go_wp2_with fail
          refine ⟨fun h => by simp at h, ?_⟩
          refine wpAnyN_done (by kernel_rfl) ?_ _
          go_wp2_with fail
          go_roundw
          case rel => exact ⟨k + 1, hlt, by go_num, hsetH'.out⟩
          case measure => simp [intOf]; omega
      · have hf0 : f = 0 := by
          rw [hf]
          simp only [DiskM.fate, List.getD_eq_getElem?_getD]
          rw [List.getElem?_eq_none (by omega)]; simp
        subst hf0
        clear hf hints
        go_wp2_with fail
        refine wp_region_need (fun w' => w'.cell? ⟨p, 0, none⟩ = some (.slice (some ⟨pg, 0, none⟩) d.pages.length pc) ∧ w'.cell? ⟨p, 1, none⟩ = some (.slice (some ⟨g, 0, none⟩) d.row.length cap) ∧
          w'.cell? ⟨g, k * 2 + 1, none⟩ = some (str xl) ∧ w'.cell? ⟨pg, xa, none⟩ = some (str page)) (fun i => decide (i < 26)) (by kernel_rfl) ⟨c0, c1, e2, cpg⟩ (fun hHeld => ?_)
        refine wpAnyN_take (i := 0) (v := ?_) rfl (by kernel_rfl) (by kernel_rfl) (by kernel_rfl) (by kernel_rfl) (fun _ _ _ h => h) (Or.inl ⟨by rfl, ?_⟩) (by assumption) ?_
        rotate_left
        · intro w hSw; ((try dsimp only at hSw); go_simp; (try with_reducible rfl))
        simp only [Act.put, List.setIfInBounds_toArray, List.set_cons_zero, List.set_cons_succ]
        refine wpAnyN_take (i := 1) (v := ?_) rfl (by kernel_rfl) (by kernel_rfl) (by kernel_rfl) (by kernel_rfl) (fun _ _ _ h => h) (Or.inl ⟨by rfl, ?_⟩) (by assumption) ?_
        rotate_left
        · intro w hSw; ((try dsimp only at hSw); go_simp; (try with_reducible rfl))
        simp only [Act.put, List.setIfInBounds_toArray, List.set_cons_zero, List.set_cons_succ]
        refine wpAnyN_take (i := 2) (v := ?_) rfl (by kernel_rfl) (by kernel_rfl) (by kernel_rfl) (by kernel_rfl) (fun _ _ _ h => h) (Or.inl ⟨by rfl, ?_⟩) (by assumption) ?_
        rotate_left
        · intro w hSw; ((try dsimp only at hSw); go_simp; (try with_reducible rfl))
        simp only [Act.put, List.setIfInBounds_toArray, List.set_cons_zero, List.set_cons_succ]
        refine wpAnyN_take (i := 3) (v := ?_) rfl (by kernel_rfl) (by kernel_rfl) (by kernel_rfl) (by kernel_rfl) (fun _ _ _ h => h) (Or.inl ⟨by rfl, ?_⟩) (by assumption) ?_
        rotate_left
        · intro w hSw; ((try dsimp only at hSw); go_simp; (try with_reducible rfl))
        simp only [Act.put, List.setIfInBounds_toArray, List.set_cons_zero, List.set_cons_succ]
        refine wpAnyN_take (i := 4) (v := ?_) rfl (by kernel_rfl) (by kernel_rfl) (by kernel_rfl) (by kernel_rfl) (fun _ _ _ h => h) (Or.inl ⟨by rfl, ?_⟩) (by assumption) ?_
        rotate_left
        · intro w hSw; ((try dsimp only at hSw); go_simp; (try with_reducible rfl))
        simp only [Act.put, List.setIfInBounds_toArray, List.set_cons_zero, List.set_cons_succ]
        refine wpAnyN_take (i := 5) (v := ?_) rfl (by kernel_rfl) (by kernel_rfl) (by kernel_rfl) (by kernel_rfl) (fun _ _ _ h => h) (Or.inl ⟨by rfl, ?_⟩) (by assumption) ?_
        rotate_left
        · intro w hSw; ((try dsimp only at hSw); go_simp; (try with_reducible rfl))
        simp only [Act.put, List.setIfInBounds_toArray, List.set_cons_zero, List.set_cons_succ]
        refine wpAnyN_take (i := 6) (v := ?_) rfl (by kernel_rfl) (by kernel_rfl) (by kernel_rfl) (by kernel_rfl) (fun _ _ _ h => h) (Or.inl ⟨by rfl, ?_⟩) (by assumption) ?_
        rotate_left
        · intro w hSw; ((try dsimp only at hSw); go_simp; (try with_reducible rfl))
        simp only [Act.put, List.setIfInBounds_toArray, List.set_cons_zero, List.set_cons_succ]
        refine wpAnyN_take (i := 7) (v := ?_) rfl (by kernel_rfl) (by kernel_rfl) (by kernel_rfl) (by kernel_rfl) (fun _ _ _ h => h) (Or.inl ⟨by rfl, ?_⟩) (by assumption) ?_
        rotate_left
        · intro w hSw; ((try dsimp only at hSw); go_simp; (try with_reducible rfl))
        simp only [Act.put, List.setIfInBounds_toArray, List.set_cons_zero, List.set_cons_succ]
        refine wpAnyN_take (i := 8) (v := ?_) rfl (by kernel_rfl) (by kernel_rfl) (by kernel_rfl) (by kernel_rfl) (fun _ _ _ h => h) (Or.inl ⟨by rfl, ?_⟩) (by assumption) ?_
        rotate_left
        · intro w hSw; ((try dsimp only at hSw); go_simp; (try with_reducible rfl))
        simp only [Act.put, List.setIfInBounds_toArray, List.set_cons_zero, List.set_cons_succ]
        refine wpAnyN_take (i := 9) (v := ?_) rfl (by kernel_rfl) (by kernel_rfl) (by kernel_rfl) (by kernel_rfl) (fun _ _ _ h => h) (Or.inl ⟨by rfl, ?_⟩) (by assumption) ?_
        rotate_left
        · intro w hSw; ((try dsimp only at hSw); go_simp; (try with_reducible rfl))
        simp only [Act.put, List.setIfInBounds_toArray, List.set_cons_zero, List.set_cons_succ]
        refine wpAnyN_take (i := 10) (v := ?_) rfl (by kernel_rfl) (by kernel_rfl) (by kernel_rfl) (by kernel_rfl) (fun _ _ _ h => h) (Or.inl ⟨by rfl, ?_⟩) (by assumption) ?_
        rotate_left
        · intro w hSw; ((try dsimp only at hSw); go_simp; (try with_reducible rfl))
        simp only [Act.put, List.setIfInBounds_toArray, List.set_cons_zero, List.set_cons_succ]
        refine wpAnyN_take (i := 11) (v := ?_) rfl (by kernel_rfl) (by kernel_rfl) (by kernel_rfl) (by kernel_rfl) (fun _ _ _ h => h) (Or.inl ⟨by rfl, ?_⟩) (by assumption) ?_
        rotate_left
        · intro w hSw; ((try dsimp only at hSw); go_simp; (try with_reducible rfl))
        simp only [Act.put, List.setIfInBounds_toArray, List.set_cons_zero, List.set_cons_succ]
        refine wpAnyN_take (i := 12) (v := ?_) rfl (by kernel_rfl) (by kernel_rfl) (by kernel_rfl) (by kernel_rfl) (fun _ _ _ h => h) (Or.inl ⟨by rfl, ?_⟩) (by assumption) ?_
        rotate_left
        · intro w hSw; ((try dsimp only at hSw); go_simp; (try with_reducible rfl))
        simp only [Act.put, List.setIfInBounds_toArray, List.set_cons_zero, List.set_cons_succ]
        refine wpAnyN_take (i := 13) (v := ?_) rfl (by kernel_rfl) (by kernel_rfl) (by kernel_rfl) (by kernel_rfl) (fun _ _ _ h => h) (Or.inl ⟨by rfl, ?_⟩) (by assumption) ?_
        rotate_left
        · intro w hSw; ((try dsimp only at hSw); go_simp; (try with_reducible rfl))
        simp only [Act.put, List.setIfInBounds_toArray, List.set_cons_zero, List.set_cons_succ]
        refine wpAnyN_take (i := 14) (v := str (xl.take 0)) rfl (by kernel_rfl) (by kernel_rfl) (by kernel_rfl) (by kernel_rfl) (fun _ _ _ h => h) (yields_run rfl (fun w hSw => ?_)) (by assumption) ?_
        · refine exec_slice 9 (.tmp 49) none (some (.tmp 50)) none rfl ?_
          exact (run_str_take w xl 0 (by have := hx2.out; omega))
        simp only [Act.put, List.setIfInBounds_toArray, List.set_cons_zero, List.set_cons_succ]
        refine wpAnyN_take (i := 15) (v := ?_) rfl (by kernel_rfl) (by kernel_rfl) (by kernel_rfl) (by kernel_rfl) (fun _ _ _ h => h) (Or.inl ⟨by rfl, ?_⟩) (by assumption) ?_
        rotate_left
        · intro w hSw; ((try dsimp only at hSw); go_simp; (try with_reducible rfl))
        simp only [Act.put, List.setIfInBounds_toArray, List.set_cons_zero, List.set_cons_succ]
        refine wpAnyN_take (i := 16) (v := ?_) rfl (by kernel_rfl) (by kernel_rfl) (by kernel_rfl) (by kernel_rfl) (fun _ _ _ h => h) (Or.inl ⟨by rfl, ?_⟩) (by assumption) ?_
        rotate_left
        · intro w hSw; ((try dsimp only at hSw); go_simp; (try with_reducible rfl))
        simp only [Act.put, List.setIfInBounds_toArray, List.set_cons_zero, List.set_cons_succ]
        refine wpAnyN_take (i := 17) (v := ?_) rfl (by kernel_rfl) (by kernel_rfl) (by kernel_rfl) (by kernel_rfl) (fun _ _ _ h => h) (Or.inl ⟨by rfl, ?_⟩) (by assumption) ?_
        rotate_left
        · intro w hSw; ((try dsimp only at hSw); go_simp; (try with_reducible rfl))
        simp only [Act.put, List.setIfInBounds_toArray, List.set_cons_zero, List.set_cons_succ]
        refine wpAnyN_take (i := 18) (v := ?_) rfl (by kernel_rfl) (by kernel_rfl) (by kernel_rfl) (by kernel_rfl) (fun _ _ _ h => h) (Or.inl ⟨by rfl, ?_⟩) (by assumption) ?_
        rotate_left
        · intro w hSw; ((try dsimp only at hSw); go_simp; (try with_reducible rfl))
        simp only [Act.put, List.setIfInBounds_toArray, List.set_cons_zero, List.set_cons_succ]
        refine wpAnyN_take (i := 19) (v := ?_) rfl (by kernel_rfl) (by kernel_rfl) (by kernel_rfl) (by kernel_rfl) (fun _ _ _ h => h) (Or.inl ⟨by rfl, ?_⟩) (by assumption) ?_
        rotate_left
        · intro w hSw; ((try dsimp only at hSw); go_simp; (try with_reducible rfl))
        simp only [Act.put, List.setIfInBounds_toArray, List.set_cons_zero, List.set_cons_succ]
        refine wpAnyN_take (i := 20) (v := ?_) rfl (by kernel_rfl) (by kernel_rfl) (by kernel_rfl) (by kernel_rfl) (fun _ _ _ h => h) (Or.inl ⟨by rfl, ?_⟩) (by assumption) ?_
        rotate_left
        · intro w hSw; ((try dsimp only at hSw); go_simp; (try with_reducible rfl))
        simp only [Act.put, List.setIfInBounds_toArray, List.set_cons_zero, List.set_cons_succ]
        refine wpAnyN_take (i := 21) (v := ?_) rfl (by kernel_rfl) (by kernel_rfl) (by kernel_rfl) (by kernel_rfl) (fun _ _ _ h => h) (Or.inl ⟨by rfl, ?_⟩) (by assumption) ?_
        rotate_left
        · intro w hSw; ((try dsimp only at hSw); go_simp; (try with_reducible rfl))
        simp only [Act.put, List.setIfInBounds_toArray, List.set_cons_zero, List.set_cons_succ]
        refine wpAnyN_take (i := 22) (v := ?_) rfl (by kernel_rfl) (by kernel_rfl) (by kernel_rfl) (by kernel_rfl) (fun _ _ _ h => h) (Or.inl ⟨by rfl, ?_⟩) (by assumption) ?_
        rotate_left
        · intro w hSw; ((try dsimp only at hSw); go_simp; (try with_reducible rfl))
        simp only [Act.put, List.setIfInBounds_toArray, List.set_cons_zero, List.set_cons_succ]
        refine wpAnyN_take (i := 23) (v := str (page.drop 0)) rfl (by kernel_rfl) (by kernel_rfl) (by kernel_rfl) (by kernel_rfl) (fun _ _ _ h => h) (yields_run rfl (fun w hSw => ?_)) (by assumption) ?_
        · refine exec_slice 9 (.tmp 58) (some (.tmp 59)) none none rfl ?_
          exact (run_str_drop w page 0 (by have := holdH.out; omega))
        simp only [Act.put, List.setIfInBounds_toArray, List.set_cons_zero, List.set_cons_succ]
        refine wpAnyN_take (i := 24) (v := str (xl.take 0 ++ page.drop 0)) rfl (by kernel_rfl) (by kernel_rfl) (by kernel_rfl) (by kernel_rfl) (fun _ _ _ h => h) (yields_run rfl (fun w hSw => ?_)) (by assumption) ?_
        · refine exec_add 9 9 (.tmp 51) (.tmp 60) rfl ?_
          exact (run_str_add w (xl.take 0) (page.drop 0) (by have := hx2.out; have := holdH.out; rw [List.length_take, List.length_drop]; omega))
        simp only [Act.put, List.setIfInBounds_toArray, List.set_cons_zero, List.set_cons_succ]
        have cpgd : wr.drew.cell? ⟨pg, xa, none⟩ = some _ := cpg
        have fpgd : wr.drew.frozen? ⟨pg, xa, none⟩ = false := fpg
        refine wpAnyN_one (i := 25) rfl (by kernel_rfl) ?_
        go_wp2_with fail
        refine ⟨fun _ => hHeld, ?_⟩
        refine wpAnyN_one (i := 26) rfl (by kernel_rfl) ?_
        have hsetH' : Hid (RefMid w o E p pg pc (.slice (some ⟨g, 0, none⟩) d.row.length cap) d (DiskM.donePages (DiskM.fate l) d.pages (d.row.take (k + 1))) (wr.drew.setCell ⟨pg, xa, none⟩ (str (xl.take 0 ++ page.drop 0))) o) := hsetH
        clear hsetH
        generalize xl.take 0 ++ page.drop 0 = nw at *
        unfold str at cpgd hsetH' ⊢
        go_wp2_with fail
        refine ⟨fun h => by simp at h, ?_⟩
        refine wpAnyN_done (by kernel_rfl) ?_ _
        go_wp2_with fail
        go_roundw
        case rel => exact ⟨k + 1, hlt, by go_num, hsetH'.out⟩
        case measure => simp [intOf]; omega
    · have hk' : k = d.row.length := by omega
      subst hk'
      rw [List.take_length] at hm
      have hfin := hm.done hwfH.out (hPWH.out d.row hw4H.out)
      have hst2 : Step (Only E) w o (((wr.setCell ⟨p, 1, none⟩ (.slice none 0 0)).setCell ⟨p, 3, none⟩ (.bool false)).setCell ⟨p, 2, none⟩ (.int .i64 (-1))) o := (hfin.2.trans (hfin.1.setStep 3 _)).trans ((hfin.1.setDead false).setStep 2 _)
      have hat2 := (hfin.1.setDead false).setLeft (-1) (by omega)
      obtain ⟨_, _, ⟨_, _, d2, d3⟩, ⟨_, g2, g3⟩, -⟩ := hfin.1.open
      obtain ⟨_, _, ⟨_, _, d4, _⟩, ⟨_, g4, _⟩, -⟩ := (hfin.1.setDead false).open
      subst hrv
      have hst2H := hidden hst2
      have hat2H := hidden hat2
      clear hfin hm hst2 hat2
      go_wp2_with fail
      go_end0
      exact ⟨_, o, rfl, hst2H.out, rfl, hat2H.out⟩
end Go.Proofs.YtfgggkheadfiaaaR
/- Contracts of the document's answer of layer 8: number, value. -/
namespace Go.Proofs.YtfgggkheadfiaaaR
open Go Go.RowKit
attribute [local go_sem ↓] Go.wp_at_zero Go.wp_at_succ

section
variable {P : Program} {ops : Array Oper} {Q : Exit → Act → World → Prop} {rest : List Oper} {d : Option Nat} {ty : TypeId} {ps : String} {af : Array _} {a : Act} {w w' : World} {v : Value}
theorem lit_add {x y : Operand} {t u : TypeId} (hr : (binOp .add t (a.eval x) (a.eval y)).run P w = .ok v w') (h : wpList P ops Q rest (a.put d v) w') :
    wpList P ops Q ({ dst := d, op := .binOp .add t x y u, type := ty, pos := ps, after := af, guard := none } :: rest) a w :=
  wpList_run rfl (exec_add t u x y rfl hr) h
end
theorem run_str_index (w : World) (l : List UInt8) (k : Nat) (b : UInt8) (h : l[k]? = some b) : (Instr.index 9 (str l) (.int .i64 (k : Int))).run Try.prog w = .ok (.int .u8 (b.toNat : Int)) w := by
  have hk : (⟨l.toArray⟩ : ByteArray)[k]? = some b := by
    have hlt := (List.getElem?_eq_some_iff.1 h).1
    rw [getElem?_pos _ k (by simpa [ByteArray.size] using hlt)]
    have : (⟨l.toArray⟩ : ByteArray)[k]'(by simpa [ByteArray.size] using hlt) = l[k] := rfl
    rw [this, (List.getElem?_eq_some_iff.1 h).2]
  simp [Instr.index, asIntOf, str, run_underlying Try.underlying9, hk]
theorem be_zero (x : BitVec 64) : be 0 x = [] := rfl
theorem bv_of (b : UInt8) : bvs [b] = [.int .u8 (b.toNat : Int)] := rfl
set_option maxRecDepth 100000 in
set_option maxHeartbeats 1600000 in
theorem rnumber_any (x : BitVec 64) (n : Nat) (hn : n ≤ 8) (w : World) (o : Own) :
    Calls Try.prog 122 #[.int .u64 (x.toNat : Int), .int .i64 (n : Int)] w (Ret Nobody w o fun v _ _ => v = str (be n x)) := by
  have hn8 : (n : Int) ≤ 8 := by omega
  go_enter Try.func122, Try.ntmps122
  go_wp2_with fail
  go_loopw [0, 5, 6] (fun vv s i wr => ∃ (k : Nat) (oj : Own), k ≤ n ∧ i = .int .i64 k ∧ vv = .int .u64 ((x.toNat / 256 ^ k : Nat) : Int) ∧ s = str (be k x) ∧ Step Nobody w o wr oj)
    (fun _ _ i _ => n - (intOf i).toNat)
  case atStart => exact ⟨0, o, Nat.zero_le _, rfl, by simp, rfl, Step.refl _ _ _⟩
  case round =>
    obtain ⟨k, oj, hk, rfl, rfl, rfl, hst⟩ := hrel
    obtain ⟨V, hV⟩ : ∃ V, x.toNat / 256 ^ k = V := ⟨_, rfl⟩
    have hV0 : (0 : Int) ≤ (V : Int) := by omega
    have hV1 : (V : Int) ≤ 18446744073709551615 := by
      have : x.toNat / 256 ^ k ≤ x.toNat := Nat.div_le_self _ _
      have := x.isLt
      omega
    rw [hV]
    by_cases hlt : k < n
    · have hb : (V : Int) % 256 = ((beB x k).toNat : Int) := by rw [beB_toNat, hV]; omega
      have hq : (V : Int) / 256 = ((x.toNat / 256 ^ (k + 1) : Nat) : Int) := by
        rw [Nat.pow_succ, ← Nat.div_div_eq_div_mul, hV]; omega
      have hbs := be_succ k x
      obtain ⟨b, hbE⟩ : ∃ b, beB x k = b := ⟨_, rfl⟩
      rw [hbE] at hb hbs
      have hcv := conv_string (bytes_new wr oj [b] (by simp))
      rw [bv_of] at hcv
      have hcv' : (convert 28 9 (.slice (some ⟨wr.heap.size, 0, none⟩) 1 1)).run Try.prog (wr.alloc (.cells #[.int .u8 (b.toNat : Int)] 5)) = .ok (str [b]) (wr.alloc (.cells #[.int .u8 (b.toNat : Int)] 5)) := hcv
      have had := run_str_add (wr.alloc (.cells #[.int .u8 (b.toNat : Int)] 5)) [b] (be k x) (by simp [length_be]; omega)
      have hst2 := hst.alloc (.cells #[.int .u8 (b.toNat : Int)] 5) (0, 0)
      have hqH := hidden hq
      have hbsH := hidden hbs
      have hcvH := hidden hcv'
      have hadH := hidden had
      clear hcv hcv' had hst hq hbs hbE hV
      generalize hse : str (be k x) = sv at *
      have hseH := hidden hse
      clear hse
      go_wp2_with (first
        | ((with_reducible apply lit_convert); exact hcvH.out; simp only [Act.put, List.setIfInBounds_toArray, List.set_cons_zero, List.set_cons_succ])
        | ((with_reducible apply lit_add); exact hadH.out; simp only [Act.put, List.setIfInBounds_toArray, List.set_cons_zero, List.set_cons_succ]))
      go_roundw
      case rel => exact ⟨k + 1, _, by omega, by go_num, by rw [hqH.out], by rw [hbsH.out]; rfl, hst2⟩
      case measure => simp [intOf]; omega
    · have hkn : k = n := by omega
      subst hkn
      clear hV
      go_wp2_with fail
      go_ret
      exact ⟨_, oj, rfl, hst, rfl⟩
theorem rnumber_nat (m n : Nat) (hm : m < 18446744073709551616) (hn : n ≤ 8) (w : World) (o : Own) :
    Calls Try.prog 122 #[.int .u64 (m : Int), .int .i64 (n : Int)] w (Ret Nobody w o fun v _ _ => v = str (be n (BitVec.ofNat 64 m))) := by
  have h := rnumber_any (BitVec.ofNat 64 m) n hn w o
  have e : (BitVec.ofNat 64 m).toNat = m := by rw [BitVec.toNat_ofNat]; omega
  rw [e] at h; exact h
theorem num_step (l : List UInt8) (c : UInt8) : IntKind.u64.wrap (IntKind.u64.wrap (256 * ((num l).toNat : Int)) + (c.toNat : Int)) = ((num (l ++ [c])).toNat : Int) := by
  rw [num_toNat, num_toNat, numN_append]
  have hc : numN [c] = c.toNat := by simp [numN]
  rw [hc]
  simp only [IntKind.wrap, IntKind.bits, IntKind.signed, List.length_singleton, Nat.pow_one]
  simp
  omega
set_option maxRecDepth 100000 in
set_option maxHeartbeats 1600000 in
theorem rvalue_any (l : List UInt8) (hl : l.length ≤ 1000000) (w : World) :
    Calls Try.prog 115 #[str l] w fun e w' => e = .returned (.int .u64 ((num l).toNat : Int)) ∧ w = w' := by
  have hsz : (⟨l.toArray⟩ : ByteArray).size = l.length := by simp [ByteArray.size]
  unfold str
  obtain ⟨m, hm⟩ : ∃ m, l.length = m := ⟨_, rfl⟩
  rw [hm] at hsz hl
  have hmH := hidden hm
  have hall : l.take m = l := List.take_of_length_le (by omega)
  have hallH := hidden hall
  clear hm hall
  go_enter Try.func115, Try.ntmps115
  go_wp2_with fail
  go_loop [3, 4] (fun v i => ∃ k : Nat, k ≤ m ∧ i = .int .i64 k ∧ v = .int .u64 ((num (l.take k)).toNat : Int)) (fun _ i => m - (intOf i).toNat)
  case atStart => exact ⟨0, Nat.zero_le _, rfl, rfl⟩
  case round =>
    obtain ⟨k, hk, rfl, rfl⟩ := hrel
    by_cases hlt : k < m
    · obtain ⟨b, hb⟩ : ∃ b, l[k]? = some b := ⟨_, List.getElem?_eq_getElem (by rw [hmH.out]; exact hlt)⟩
      have hix := run_str_index w l k b hb
      have hst := num_step (l.take k) b
      have htk : l.take k ++ [b] = l.take (k + 1) := by rw [List.take_add_one, hb]; rfl
      rw [htk] at hst
      have hixH := hidden hix
      have hnb := (num (l.take k)).isLt
      obtain ⟨V, hV⟩ : ∃ V, (num (l.take k)).toNat = V := ⟨_, rfl⟩
      rw [hV] at hst hnb ⊢
      have hb255 := b.toNat_lt
      have hstH := hidden hst
      clear hix hst htk hV hb
      go_wp2_with ((with_reducible apply lit_index); exact hixH.out; simp only [Act.put, List.setIfInBounds_toArray, List.set_cons_zero, List.set_cons_succ])
      go_round
      case rel => exact ⟨k + 1, by omega, by go_num, by rw [hstH.out]⟩
      case measure => simp [intOf]; omega
    · have hkm : k = m := by omega
      subst hkm
      go_wp2_with fail
      go_ret
      exact ⟨by rw [hallH.out]; rfl, rfl⟩
end Go.Proofs.YtfgggkheadfiaaaR
/- Contracts of the document's answer of layers 2 and 8: a sum, bit by bit. -/
namespace Go.Proofs.YtfgggkheadfiaaaR
open Go Go.RowKit
attribute [local go_sem ↓] Go.wp_at_zero Go.wp_at_succ

/-- 64 bits as cells. -/
def bits64 (f : Nat → Bool) : List Value := (List.range 64).map fun i => .bool (f i)
theorem length_bits64 (f : Nat → Bool) : (bits64 f).length = 64 := by simp [bits64]
theorem get_bits64 (f : Nat → Bool) (i : Nat) (h : i < 64) : (bits64 f)[i]? = some (.bool (f i)) := by simp [bits64, h]
theorem set_bits64 (f g : Nat → Bool) (k : Nat) (b : Bool) (hk : b = g k) (h : ∀ i, i < 64 → i ≠ k → g i = f i) : (bits64 f).set k (.bool b) = bits64 g := by
  apply List.ext_getElem?
  intro i
  rw [List.getElem?_set]
  by_cases hik : k = i
  · subst hik
    rw [if_pos rfl, length_bits64]
    by_cases h64 : k < 64
    · rw [if_pos h64, get_bits64 _ _ h64, hk]
    · rw [if_neg h64, List.getElem?_eq_none (by rw [length_bits64]; omega)]
  · rw [if_neg hik]
    by_cases h64 : i < 64
    · rw [get_bits64 _ _ h64, get_bits64 _ _ h64, h i h64 (fun e => hik e.symm)]
    · rw [List.getElem?_eq_none (by rw [length_bits64]; omega), List.getElem?_eq_none (by rw [length_bits64]; omega)]
theorem bits64_congr {f g : Nat → Bool} (h : ∀ i, i < 64 → f i = g i) : bits64 f = bits64 g := by
  apply List.map_congr_left
  intro i hi
  rw [h i (List.mem_range.1 hi)]
theorem one_bits64 (f : Nat → Bool) : (bits64 f).all (·.oneCell') = true := by
  rw [List.all_eq_true]
  intro v hv
  simp only [bits64, List.mem_map] at hv
  obtain ⟨i, _, rfl⟩ := hv; rfl
theorem zc204 : ((Try.prog.info? 204).bind (·.zero)).map (·.cells) = some (bits64 fun _ => false).toArray := by kernel_rfl
theorem size204 : (Try.prog.info? 204).map (·.size) = some 64 := by kernel_rfl
theorem load204 {w : World} {b : Nat} {f : Nat → Bool} {fr : Nat × Nat} (h : w.heap[b]? = some (.cells (bits64 f).toArray 204 fr)) : (Instr.loadAt 204 (.pointer (some ⟨b, 0, none⟩))).run Try.prog w = .ok (.agg (bits64 f).toArray) w := by
  simp only [Instr.loadAt, Instr.sureAddr, Sem.run_bind, Sem.run_pure, Result.andThen_ok]
  exact run_loadVar_mid w b 0 204 (bits64 f) _ (range_whole h) Try.underlying204 rfl (by rw [length_bits64]; exact size204)
theorem store204 {w : World} {b : Nat} {f g : Nat → Bool} (h : w.heap[b]? = some (.cells (bits64 f).toArray 204 (0, 0))) :
    (Instr.storeAt 204 (.pointer (some ⟨b, 0, none⟩)) (.agg (bits64 g).toArray)).run Try.prog w = .ok () (w.setCells b 0 (bits64 g)) ∧ (w.setCells b 0 (bits64 g)).heap[b]? = some (.cells (bits64 g).toArray 204 (0, 0)) :=
  run_store_agg h (by rw [length_bits64, length_bits64]) (by rw [length_bits64]; exact size204) (one_bits64 g)
theorem crcStep_bit (n : BitVec 64) (i : Nat) : (crcStep n).getLsbD i = ((n.getLsbD (i + 1)) != (n.getLsbD 0 && crcOut.getLsbD i)) := by
  have h1 : -(n &&& 1#64) = if n.getLsbD 0 then BitVec.allOnes 64 else 0#64 := by
    have : n &&& 1#64 = if n.getLsbD 0 then 1#64 else 0#64 := by
      apply BitVec.eq_of_getLsbD_eq
      intro j hj
      rw [BitVec.getLsbD_and]
      cases j with
      | zero => cases n.getLsbD 0 <;> simp
      | succ j => cases n.getLsbD 0 <;> simp [BitVec.getLsbD_one]
    rw [this]
    cases n.getLsbD 0 <;> decide +kernel
  unfold crcStep
  rw [BitVec.getLsbD_xor, BitVec.getLsbD_and, BitVec.getLsbD_ushiftRight, h1, Nat.add_comm 1 i]
  by_cases hi : i < 64
  · have ha : (BitVec.allOnes 64).getLsbD i = true := by rw [BitVec.getLsbD_allOnes]; simpa using hi
    have hz : (0#64).getLsbD i = false := BitVec.getLsbD_zero
    cases hq : n.getLsbD 0
    · rw [if_neg (by simp), hz]; simp
    · rw [if_pos rfl, ha]; simp
  · rw [BitVec.getLsbD_of_ge crcOut i (by omega), BitVec.getLsbD_of_ge n (i + 1) (by omega)]
    simp
theorem addbit_all : ∀ k : Fin 64, (bits .and .u64 (14514072000185962306 / 2 ^ k.val) 1 == 1) = crcOut.getLsbD k.val := by decide +kernel
theorem addbit (k : Nat) (h : k < 64) : (bits .and .u64 (14514072000185962306 / 2 ^ k) 1 == 1) = crcOut.getLsbD k := addbit_all ⟨k, h⟩
set_option maxRecDepth 100000 in
set_option maxHeartbeats 3200000 in
theorem rstep_any (n : BitVec 64) (w : World) (o : Own) :
    Calls Try.prog 141 #[.agg (bits64 n.getLsbD).toArray] w (Ret Nobody w o fun v _ _ => v = .agg (bits64 (crcStep n).getLsbD).toArray) := by
  have sA := (Step.refl Nobody w o).alloc (.cells (bits64 n.getLsbD).toArray 204) (0, 0)
  have sB := sA.alloc (.cells (bits64 fun _ => false).toArray 204) (0, 0)
  have sC := sB.alloc (.cells (bits64 fun _ => false).toArray 204) (0, 0)
  have zA : (w.alloc (.cells (bits64 n.getLsbD).toArray 204)).heap.size = w.heap.size + 1 := by simp
  have zB : ((w.alloc (.cells (bits64 n.getLsbD).toArray 204)).alloc (.cells (bits64 fun _ => false).toArray 204)).heap.size = w.heap.size + 1 + 1 := by simp
  have hA : (((w.alloc (.cells (bits64 n.getLsbD).toArray 204)).alloc (.cells (bits64 fun _ => false).toArray 204)).alloc (.cells (bits64 fun _ => false).toArray 204)).heap[w.heap.size]? = some (.cells (bits64 n.getLsbD).toArray 204 (0, 0)) := by
    rw [Below.heap_alloc _ _ _ (by omega), Below.heap_alloc _ _ _ (by omega)]; exact heap_alloc_new w _
  have hB : (((w.alloc (.cells (bits64 n.getLsbD).toArray 204)).alloc (.cells (bits64 fun _ => false).toArray 204)).alloc (.cells (bits64 fun _ => false).toArray 204)).heap[w.heap.size + 1]? = some (.cells (bits64 fun _ => false).toArray 204 (0, 0)) := by
    rw [Below.heap_alloc _ _ _ (by omega), ← zA]; exact heap_alloc_new _ _
  have hC : (((w.alloc (.cells (bits64 n.getLsbD).toArray 204)).alloc (.cells (bits64 fun _ => false).toArray 204)).alloc (.cells (bits64 fun _ => false).toArray 204)).heap[w.heap.size + 1 + 1]? = some (.cells (bits64 fun _ => false).toArray 204 (0, 0)) := by
    rw [← zB]; exact heap_alloc_new _ _
  generalize hW : ((w.alloc (.cells (bits64 n.getLsbD).toArray 204)).alloc (.cells (bits64 fun _ => false).toArray 204)).alloc (.cells (bits64 fun _ => false).toArray 204) = W at *
  rw [zA, zB] at sC
  generalize tagAt (tagAt (tagAt o w.heap.size (0, 0)) (w.heap.size + 1) (0, 0)) (w.heap.size + 1 + 1) (0, 0) = o3 at *
  obtain ⟨A, hAE⟩ : ∃ A, w.heap.size = A := ⟨_, rfl⟩
  have hWH := hidden hW
  clear hW zA zB sA sB
  go_enter Try.func141, Try.ntmps141
  go_wp2_with fail
  go_loopw [4] (fun i wr => ∃ k : Nat, k ≤ 63 ∧ i = .int .i64 k ∧ wr.heap[w.heap.size]? = some (.cells (bits64 n.getLsbD).toArray 204 (0, 0)) ∧ wr.heap[w.heap.size + 1]? = some (.cells (bits64 fun _ => false).toArray 204 (0, 0)) ∧
      wr.heap[w.heap.size + 1 + 1]? = some (.cells (bits64 fun i => decide (i < k) && n.getLsbD (i + 1)).toArray 204 (0, 0)) ∧ Step Nobody w o wr o3)
    (fun i _ => 63 - (intOf i).toNat)
  case atStart =>
    have e : ∀ W', W = W' → W'.heap[w.heap.size]? = some (.cells (bits64 n.getLsbD).toArray 204 (0, 0)) ∧ W'.heap[w.heap.size + 1]? = some (.cells (bits64 fun _ => false).toArray 204 (0, 0)) ∧
      W'.heap[w.heap.size + 1 + 1]? = some (.cells (bits64 fun i => decide (i < 0) && n.getLsbD (i + 1)).toArray 204 (0, 0)) ∧ Step Nobody w o W' o3 := fun W' h => by
      subst h
      exact ⟨hA, hB, by rw [hC]; rfl, sC⟩
    exact ⟨0, by omega, rfl, e _ hWH.out.symm⟩
  case round =>
    clear hA hB hC sC hWH
    obtain ⟨k, hk, rfl, hA, hB, hC, hst⟩ := hrel
    rw [hAE] at hA hB hC ⊢
    by_cases hlt : k < 63
    · have hcA : wr.cell? ⟨A, k + 1, none⟩ = some (.bool (n.getLsbD (k + 1))) := by rw [cell_of_block hA, get_bits64 _ _ (by omega)]
      have hcC : wr.cell? ⟨A + 1 + 1, k, none⟩ = some (.bool (decide (k < k) && n.getLsbD (k + 1))) := by rw [cell_of_block hC, get_bits64 _ _ (by omega)]
      have hfC := free_of_block hC k
      have hgs := heap_setCell_at (i := k) (.bool (n.getLsbD (k + 1))) hC
      rw [set_bits64 _ (fun i => decide (i < k + 1) && n.getLsbD (i + 1)) k _ (by simp) (fun i hi hne => by
        by_cases h : i < k
        · simp [h, show i < k + 1 by omega]
        · simp [h, show ¬ i < k + 1 by omega])] at hgs
      have hgA : (wr.setCell ⟨A + 1 + 1, k, none⟩ (.bool (n.getLsbD (k + 1)))).heap[A]? = _ := (Below.heap_setCell _ _ _ _ (by show A ≠ A + 1 + 1; omega)).trans hA
      have hgB : (wr.setCell ⟨A + 1 + 1, k, none⟩ (.bool (n.getLsbD (k + 1)))).heap[A + 1]? = _ := (Below.heap_setCell _ _ _ _ (by show A + 1 ≠ A + 1 + 1; omega)).trans hB
      have hss := hst.setCell (a := ⟨A + 1 + 1, k, none⟩) (.bool (n.getLsbD (k + 1))) (.inr (by show w.heap.size ≤ A + 1 + 1; omega))
      have hH := hidden (And.intro hgA (And.intro hgB (And.intro hgs hss)))
      clear hgA hgB hgs hss hA hB hC hst
      go_wp2_with fail
      go_roundw
      case rel => exact ⟨k + 1, by omega, by go_num, hH.out.1, hH.out.2.1, hH.out.2.2.1, hH.out.2.2.2⟩
      case measure => simp [intOf]; omega
    · have hkm : k = 63 := by omega
      subst hkm
      have hC2 : wr.heap[A + 1 + 1]? = some (.cells (bits64 fun i => n.getLsbD (i + 1)).toArray 204 (0, 0)) := by
        rw [hC]
        congr 3
        exact bits64_congr fun i hi => by
          by_cases h : i < 63
          · simp [h]
          · have : i = 63 := by omega
            subst this
            simp
      have hcA : wr.cell? ⟨A, 0, none⟩ = some (.bool (n.getLsbD 0)) := by rw [cell_of_block hA, get_bits64 _ _ (by omega)]
      clear hC
      cases hn0 : n.getLsbD 0 with
      | false =>
        rw [hn0] at hcA
        have hld := hidden (load204 hC2)
        obtain ⟨hso, hsb⟩ := store204 (g := fun i => n.getLsbD (i + 1)) hB
        have hsoH := hidden hso
        have hss := hst.setCells (A + 1) 0 (bits64 fun i => n.getLsbD (i + 1)) (.inr (by omega))
        have hfin : bits64 (fun i => n.getLsbD (i + 1)) = bits64 (crcStep n).getLsbD := bits64_congr fun i hi => by rw [crcStep_bit, hn0]; simp
        have hfinH := hidden hfin
        clear hso hfin hn0
        go_wp2_with (first
          | ((with_reducible apply lit_load); exact hld.out; simp only [Act.put, List.setIfInBounds_toArray, List.set_cons_zero, List.set_cons_succ])
          | ((with_reducible apply lit_store); exact hsoH.out; simp only [Act.put]))
        refine bodyPost_ret (results_cell_row rfl _ _ (A + 1) 204 _ (0, 0) _ rfl hsb Try.underlying204 rfl (by rw [List.size_toArray, length_bits64]; exact size204)) rfl ?_
        exact ⟨_, o3, rfl, hss, by rw [hfinH.out]⟩
      | true =>
        rw [hn0] at hcA
        have hn0H := hidden hn0
        clear hn0
        go_wp2_with fail
        go_loopw [6] (fun i wr => ∃ k : Nat, k ≤ 64 ∧ i = .int .i64 k ∧ wr.heap[A + 1]? = some (.cells (bits64 fun _ => false).toArray 204 (0, 0)) ∧
            wr.heap[A + 1 + 1]? = some (.cells (bits64 fun i => if i < k then (crcStep n).getLsbD i else n.getLsbD (i + 1)).toArray 204 (0, 0)) ∧ Step Nobody w o wr o3)
          (fun i _ => 64 - (intOf i).toNat)
        case atStart => exact ⟨0, by omega, rfl, hB, by rw [hC2]; rfl, hst⟩
        case round =>
          clear hA hB hC2 hst hcA
          obtain ⟨k, hk, rfl, hB, hC, hst⟩ := hrel
          by_cases hlt : k < 64
          · have hcC : wr.drew.cell? ⟨A + 1 + 1, k, none⟩ = some (.bool (n.getLsbD (k + 1))) := by
              have : wr.cell? ⟨A + 1 + 1, k, none⟩ = some (.bool (n.getLsbD (k + 1))) := by rw [cell_of_block hC, get_bits64 _ _ (by omega), if_neg (by omega)]
              exact this
            have hC' : wr.drew.heap[A + 1 + 1]? = some (.cells (bits64 fun i => if i < k then (crcStep n).getLsbD i else n.getLsbD (i + 1)).toArray 204 (0, 0)) := hC
            have hB' : wr.drew.heap[A + 1]? = some (.cells (bits64 fun _ => false).toArray 204 (0, 0)) := hB
            have hfC := free_of_block hC' k
            have hbt := addbit k hlt
            have hstep := crcStep_bit n k
            rw [hn0H.out, Bool.true_and] at hstep
            have hgs := heap_setCell_at (i := k) (.bool ((crcStep n).getLsbD k)) hC'
            rw [set_bits64 _ (fun i => if i < k + 1 then (crcStep n).getLsbD i else n.getLsbD (i + 1)) k _ (by simp) (fun i hi hne => by
              by_cases h : i < k
              · simp [h, show i < k + 1 by omega]
              · simp [h, show ¬ i < k + 1 by omega])] at hgs
            have hgB : (wr.drew.setCell ⟨A + 1 + 1, k, none⟩ (.bool ((crcStep n).getLsbD k))).heap[A + 1]? = _ := (Below.heap_setCell _ _ _ _ (by show A + 1 ≠ A + 1 + 1; omega)).trans hB'
            have hss := hst.drew.setCell (a := ⟨A + 1 + 1, k, none⟩) (.bool ((crcStep n).getLsbD k)) (.inr (by show w.heap.size ≤ A + 1 + 1; omega))
            have hH := hidden (And.intro hgB (And.intro hgs hss))
            have hbtH := hidden hbt
            have hstepH := hidden hstep
            clear hgB hgs hss hB hC hst hbt hstep hC' hB'
            generalize hxb : n.getLsbD (k + 1) = xb at *
            generalize hyb : crcOut.getLsbD k = yb at *
            generalize hzb : (crcStep n).getLsbD k = zb at *
            clear hxb hyb hzb
            go_wp2_with fail
            refine wp_region_need (fun w' => w'.cell? ⟨A + 1 + 1, k, none⟩ = some (.bool xb)) (fun i => decide (i < 11)) (by kernel_rfl) hcC (fun hHeld => ?_)
            refine wpAnyN_take (i := 0) (v := ?_) rfl (by kernel_rfl) (by kernel_rfl) (by kernel_rfl) (by kernel_rfl) (fun _ _ _ h => h) (Or.inl ⟨by rfl, ?_⟩) (by assumption) ?_
            rotate_left
            · intro w hSw; ((try dsimp only at hSw); go_simp; (try with_reducible rfl))
            simp only [Act.put, List.setIfInBounds_toArray, List.set_cons_zero, List.set_cons_succ]
            refine wpAnyN_take (i := 1) (v := ?_) rfl (by kernel_rfl) (by kernel_rfl) (by kernel_rfl) (by kernel_rfl) (fun _ _ _ h => h) (Or.inl ⟨by rfl, ?_⟩) (by assumption) ?_
            rotate_left
            · intro w hSw; ((try dsimp only at hSw); go_simp; (try with_reducible rfl))
            simp only [Act.put, List.setIfInBounds_toArray, List.set_cons_zero, List.set_cons_succ]
            refine wpAnyN_take (i := 2) (v := ?_) rfl (by kernel_rfl) (by kernel_rfl) (by kernel_rfl) (by kernel_rfl) (fun _ _ _ h => h) (Or.inl ⟨by rfl, ?_⟩) (by assumption) ?_
            rotate_left
            · intro w hSw; ((try dsimp only at hSw); go_simp; (try with_reducible rfl))
            simp only [Act.put, List.setIfInBounds_toArray, List.set_cons_zero, List.set_cons_succ]
            refine wpAnyN_take (i := 3) (v := ?_) rfl (by kernel_rfl) (by kernel_rfl) (by kernel_rfl) (by kernel_rfl) (fun _ _ _ h => h) (Or.inl ⟨by rfl, ?_⟩) (by assumption) ?_
            rotate_left
            · intro w hSw; ((try dsimp only at hSw); go_simp; (try with_reducible rfl))
            simp only [Act.put, List.setIfInBounds_toArray, List.set_cons_zero, List.set_cons_succ]
            refine wpAnyN_take (i := 4) (v := ?_) rfl (by kernel_rfl) (by kernel_rfl) (by kernel_rfl) (by kernel_rfl) (fun _ _ _ h => h) (Or.inl ⟨by rfl, ?_⟩) (by assumption) ?_
            rotate_left
            · intro w hSw; ((try dsimp only at hSw); go_simp; (try with_reducible rfl))
            simp only [Act.put, List.setIfInBounds_toArray, List.set_cons_zero, List.set_cons_succ]
            refine wpAnyN_take (i := 5) (v := ?_) rfl (by kernel_rfl) (by kernel_rfl) (by kernel_rfl) (by kernel_rfl) (fun _ _ _ h => h) (Or.inl ⟨by rfl, ?_⟩) (by assumption) ?_
            rotate_left
            · intro w hSw; ((try dsimp only at hSw); go_simp; (try with_reducible rfl))
            simp only [Act.put, List.setIfInBounds_toArray, List.set_cons_zero, List.set_cons_succ]
            refine wpAnyN_take (i := 6) (v := ?_) rfl (by kernel_rfl) (by kernel_rfl) (by kernel_rfl) (by kernel_rfl) (fun _ _ _ h => h) (Or.inl ⟨by rfl, ?_⟩) (by assumption) ?_
            rotate_left
            · intro w hSw; ((try dsimp only at hSw); go_simp; (try with_reducible rfl))
            simp only [Act.put, List.setIfInBounds_toArray, List.set_cons_zero, List.set_cons_succ]
            refine wpAnyN_take (i := 7) (v := ?_) rfl (by kernel_rfl) (by kernel_rfl) (by kernel_rfl) (by kernel_rfl) (fun _ _ _ h => h) (Or.inl ⟨by rfl, ?_⟩) (by assumption) ?_
            rotate_left
            · intro w hSw; ((try dsimp only at hSw); go_simp; (try with_reducible rfl))
            simp only [Act.put, List.setIfInBounds_toArray, List.set_cons_zero, List.set_cons_succ]
            refine wpAnyN_take (i := 8) (v := .bool yb) rfl (by kernel_rfl) (by kernel_rfl) (by kernel_rfl) (by kernel_rfl) (fun _ _ _ h => h) (Or.inl ⟨by rfl, fun w hSw => by (try dsimp only at hSw); go_simp; first | exact hbtH.out | (rw [hbtH.out])⟩) (by assumption) ?_
            simp only [Act.put, List.setIfInBounds_toArray, List.set_cons_zero, List.set_cons_succ]
            refine wpAnyN_take (i := 9) (v := .bool zb) rfl (by kernel_rfl) (by kernel_rfl) (by kernel_rfl) (by kernel_rfl) (fun _ _ _ h => h) (Or.inl ⟨by rfl, fun w hSw => by (try dsimp only at hSw); go_simp; rw [hstepH.out]; cases xb <;> cases yb <;> rfl⟩) (by assumption) ?_
            simp only [Act.put, List.setIfInBounds_toArray, List.set_cons_zero, List.set_cons_succ]
            refine wpAnyN_take (i := 10) (v := ?_) rfl (by kernel_rfl) (by kernel_rfl) (by kernel_rfl) (by kernel_rfl) (fun _ _ _ h => h) (Or.inl ⟨by rfl, ?_⟩) (by assumption) ?_
            rotate_left
            · intro w hSw; ((try dsimp only at hSw); go_simp; (try with_reducible rfl))
            simp only [Act.put, List.setIfInBounds_toArray, List.set_cons_zero, List.set_cons_succ]
            refine wpAnyN_one (i := 11) rfl (by kernel_rfl) ?_
            go_wp2_with fail
            refine ⟨fun h => by simp at h, ?_⟩
            refine wpAnyN_done (by kernel_rfl) ?_ _
            clear hcC hfC hHeld
            go_wp2_with fail
            go_roundw
            case rel => exact ⟨k + 1, by omega, by go_num, hH.out.1, hH.out.2.1, hH.out.2.2⟩
            case measure => simp [intOf]; omega
          · have hkm : k = 64 := by omega
            subst hkm
            have hC2 : wr.heap[A + 1 + 1]? = some (.cells (bits64 (crcStep n).getLsbD).toArray 204 (0, 0)) := by
              rw [hC, bits64_congr (g := (crcStep n).getLsbD) (fun i hi => by rw [if_pos hi])]
            have hld := hidden (load204 hC2)
            obtain ⟨hso, hsb⟩ := store204 (g := (crcStep n).getLsbD) hB
            have hsoH := hidden hso
            have hss := hst.setCells (A + 1) 0 (bits64 (crcStep n).getLsbD) (.inr (by omega))
            clear hso hC
            go_wp2_with (first
              | ((with_reducible apply lit_load); exact hld.out; simp only [Act.put, List.setIfInBounds_toArray, List.set_cons_zero, List.set_cons_succ])
              | ((with_reducible apply lit_store); exact hsoH.out; simp only [Act.put]))
            refine bodyPost_ret (results_cell_row rfl _ _ (A + 1) 204 _ (0, 0) _ rfl hsb Try.underlying204 rfl (by rw [List.size_toArray, length_bits64]; exact size204)) rfl ?_
            exact ⟨_, o3, rfl, hss, rfl⟩
end Go.Proofs.YtfgggkheadfiaaaR
