/- Contracts of the document's own disk: Sync, Restart. -/
import Derived.Test.YtfgggkheadfiaaaRRef07b
namespace Go.Proofs.YtfgggkheadfiaaaR
open Go Go.RowKit
attribute [local go_sem ↓] Go.wp_at_zero Go.wp_at_succ

theorem run_str_take (w : World) (l : List UInt8) (n : Nat) (hn : n ≤ l.length) : (Instr.sliceAt 9 (str l) none (some (.int .i64 (n : Int))) none).run Try.prog w = .ok (str (l.take n)) w := by
  have hx : (⟨l.toArray⟩ : ByteArray).extract 0 n = ⟨(l.take n).toArray⟩ := by
    apply ByteArray.ext; simp [ByteArray.data_extract]
  have hs : (⟨l.toArray⟩ : ByteArray).size = l.length := by simp [ByteArray.size]
  have hb : (Instr.sliceBound (.int .i64 (n : Int)) l.length .sliceAlen).run Try.prog w = .ok n w := by
    rw [run_sliceBound (k := .i64) (i := (n : Int)) (h0 := by omega) (h1 := by omega)]; simp
  simp only [Instr.sliceAt, Instr.slice, str, Sem.run_bind, run_underlying Try.underlying9, Result.andThen_ok, Instr.sliceBounds, Option.isSome, hs]
  simp [hb, hx]
theorem run_str_drop (w : World) (l : List UInt8) (n : Nat) (hn : n ≤ l.length) : (Instr.sliceAt 9 (str l) (some (.int .i64 (n : Int))) none none).run Try.prog w = .ok (str (l.drop n)) w := by
  have hx : (⟨l.toArray⟩ : ByteArray).extract n l.length = ⟨(l.drop n).toArray⟩ := by
    apply ByteArray.ext
    simp only [ByteArray.data_extract, List.extract_toArray, List.extract_eq_take_drop, Array.mk.injEq]
    exact List.take_of_length_le (by simp)
  have hs : (⟨l.toArray⟩ : ByteArray).size = l.length := by simp [ByteArray.size]
  have hb : (Instr.sliceBound (.int .i64 (n : Int)) l.length .sliceB).run Try.prog w = .ok n w := by
    rw [run_sliceBound (k := .i64) (i := (n : Int)) (h0 := by omega) (h1 := by omega)]; simp
  simp only [Instr.sliceAt, Instr.slice, str, Sem.run_bind, run_underlying Try.underlying9, Result.andThen_ok, Instr.sliceBounds, Option.isSome, hs]
  simp [hb, hx]
theorem run_str_add (w : World) (l m : List UInt8) (hn : l.length + m.length ≤ 1000000) : (binOp .add 9 (str l) (str m)).run Try.prog w = .ok (str (l ++ m)) w := by
  have hs : ∀ l : List UInt8, (⟨l.toArray⟩ : ByteArray).size = l.length := fun l => by simp [ByteArray.size]
  have hx : (⟨l.toArray⟩ : ByteArray) ++ (⟨m.toArray⟩ : ByteArray) = ⟨(l ++ m).toArray⟩ := by
    apply ByteArray.ext; simp
  simp only [binOp, str, Op.stringOp, hs]
  rw [if_neg (by simp [IntKind.max, IntKind.bits, IntKind.signed]; omega)]
  rw [hx]; simp
theorem exec_slice {P : Program} {a : Act} {op : Oper} {w w' : World} (t : TypeId) (x : Operand) (lo hi mx : Option Operand) (ho : op.op = .slice t x lo hi mx) {v : Value}
    (h : (Instr.sliceAt t (a.eval x) (lo.map a.eval) (hi.map a.eval) (mx.map a.eval)).run P w = .ok v w') : (execOp a.eval op).run P w = .ok (.value v) w' := by
  unfold execOp
  simp only [ho, Sem.run_bind, h, Result.andThen_ok, Sem.run_pure]
theorem exec_add {P : Program} {a : Act} {op : Oper} {w w' : World} (t u : TypeId) (x y : Operand) (ho : op.op = .binOp .add t x y u) {v : Value}
    (h : (binOp .add t (a.eval x) (a.eval y)).run P w = .ok v w') : (execOp a.eval op).run P w = .ok (.value v) w' := by
  unfold execOp
  simp only [ho, Sem.run_bind, eqGuard, Bool.not_false, if_true, h, Result.andThen_ok, Sem.run_pure]

/-- What lies where, in a round of the row's loop. -/
def RefMid (w : World) (o : Own) (E p pg pc : Nat) (rv : Value) (d : DiskM) (ps : List (List UInt8)) (wr : World) (o1 : Own) : Prop :=
  Step (Only E) w o wr o1 ∧ wr.heap[p]? = some (.cells #[.slice (some ⟨pg, 0, none⟩) d.pages.length pc, rv, .int .i64 d.left, .bool d.dead] 51 (0, 0)) ∧
    wr.ownsRow 0 9 1 (.slice (some ⟨pg, 0, none⟩) d.pages.length pc) d.pages.length (strs ps) ∧ wr.ownsRow 0 174 2 rv d.row.length (refCells d.row) ∧
    o1 p = (E, 0) ∧ o1 pg = (E, 1) ∧ (∀ k, rv.ownBlock = some k → o1 k = (E, 2))
section
variable {w wr : World} {o o1 : Own} {E p pg pc : Nat} {rv : Value} {d : DiskM} {ps : List (List UInt8)}
theorem RefMid.drew (h : RefMid w o E p pg pc rv d ps wr o1) : RefMid w o E p pg pc rv d ps wr.drew o1 := by
  obtain ⟨h1, h2, h3, h4, h5, h6, h7⟩ := h
  exact ⟨h1.drew, h2, h3, h4, h5, h6, h7⟩
theorem RefMid.set (h : RefMid w o E p pg pc rv d ps wr o1) (j : Nat) (l : List UInt8) : RefMid w o E p pg pc rv d (ps.set j l) (wr.setCell ⟨pg, j, none⟩ (str l)) o1 := by
  obtain ⟨h1, h2, h3, h4, h5, h6, h7⟩ := h
  refine ⟨h1.setCell _ (.inl (by rw [h6]; rfl)), ?_, ?_, ?_, h5, h6, h7⟩
  · rw [Below.heap_setCell _ _ _ _ (by rintro rfl; rw [h5] at h6; simp at h6)]; exact h2
  · rw [← strs_set]; exact (h3.stored j (str l)).1
  · refine ownsRow_same h4 fun k hk => Below.heap_setCell _ _ _ _ ?_
    rintro rfl; have := h7 _ hk; rw [h6] at this; simp at this
theorem RefMid.done (h : RefMid w o E p pg pc rv d ps wr o1) (hwf : d.wf) (hps : ps.length = d.pages.length ∧ ∀ q ∈ ps, q.length = 512) : RefAt (wr.setCell ⟨p, 1, none⟩ (.slice none 0 0)) o1 E p { d with pages := ps, row := [] } ∧
    Step (Only E) w o (wr.setCell ⟨p, 1, none⟩ (.slice none 0 0)) o1 := by
  obtain ⟨h1, h2, h3, h4, h5, h6, h7⟩ := h
  obtain ⟨w1, w2, w3, w4, w5, w6⟩ := hwf
  have hat : RefAt wr o1 E p { d with pages := ps } := by
    refine ⟨.slice (some ⟨pg, 0, none⟩) d.pages.length pc, rv, h2, by rw [hps.1]; exact h3, h4, h5, ?_, h7, ⟨by rw [hps.1]; exact w1, by rw [hps.1]; exact w2, hps.2, ?_, w5, w6⟩⟩
    · intro k hk
      simp only [Value.ownBlock, Option.some.injEq] at hk
      subst hk; exact h6
    · intro x hx; show x.1 < ps.length ∧ _; rw [hps.1]; exact w4 x hx
  exact ⟨hat.setRowNil, h1.setCell _ (.inl (by rw [h5]; rfl))⟩
/-- The cells of a round. -/
theorem RefMid.cells (h : RefMid w o E p pg pc rv d ps wr o1) (k : Nat) (hk : k < d.row.length) :
    wr.cell? ⟨p, 0, none⟩ = some (.slice (some ⟨pg, 0, none⟩) d.pages.length pc) ∧ ∃ g cap, rv = .slice (some ⟨g, 0, none⟩) d.row.length cap ∧ wr.cell? ⟨p, 1, none⟩ = some (.slice (some ⟨g, 0, none⟩) d.row.length cap) ∧
      wr.cell? ⟨g, k * 2, none⟩ = some (.int .i64 (d.row[k].1 : Int)) ∧ wr.cell? ⟨g, k * 2 + 1, none⟩ = some (str d.row[k].2) := by
  obtain ⟨h1, h2, h3, h4, h5, h6, h7⟩ := h
  obtain ⟨g, cap, rfl⟩ := row_at h4 (by omega)
  exact ⟨cell_of_block h2 0, g, cap, rfl, cell_of_block h2 1, by rw [h4.cellAt _ (by omega), Nat.mul_comm]; exact (get_refCells _ _ hk).1, by rw [h4.cellAt _ (by omega), Nat.mul_comm]; exact (get_refCells _ _ hk).2⟩
theorem RefMid.page (h : RefMid w o E p pg pc rv d ps wr o1) (j : Nat) (hj : j < ps.length) (hps : ps.length = d.pages.length) : wr.cell? ⟨pg, j, none⟩ = some (str (ps.getD j [])) ∧ wr.frozen? ⟨pg, j, none⟩ = false := by
  obtain ⟨h1, h2, h3, h4, h5, h6, h7⟩ := h
  exact ⟨by rw [h3.cellAt _ (by omega)]; exact get_strs _ _ hj, h3.frozenAt j⟩
theorem RefMid.len (h : RefMid w o E p pg pc rv d ps wr o1) : wr.cell? ⟨p, 1, none⟩ = some rv ∧ wr.frozen? ⟨p, 1, none⟩ = false ∧ ∃ a c, rv = .slice a d.row.length c := by
  obtain ⟨h1, h2, h3, h4, h5, h6, h7⟩ := h
  exact ⟨cell_of_block h2 1, free_of_block h2 1, rrow_form h4⟩
end
theorem RefAt.mid {w w1 : World} {o o1 : Own} {E p : Nat} {d : DiskM} (h : RefAt w1 o1 E p d) (hs : Step (Only E) w o w1 o1) : ∃ pg pc rv, RefMid w o E p pg pc rv d d.pages w1 o1 := by
  obtain ⟨pv, rv, hp, hl, hr, op, ol, orr, hwf⟩ := h
  obtain ⟨pg, pc, rfl⟩ := row_at hl hwf.1
  exact ⟨pg, pc, rv, hs, hp, hl, hr, op, ol pg rfl, orr⟩
theorem donePages_take (f : Nat → Nat) (pages : List (List UInt8)) (row : List (Nat × List UInt8)) (k : Nat) (hk : k < row.length) :
    DiskM.donePages f pages (row.take (k + 1)) = (DiskM.donePages f pages (row.take k)).set row[k].1 (DiskM.splicePage (f k) row[k].2 ((DiskM.donePages f pages (row.take k)).getD row[k].1 [])) := by
  rw [List.take_succ_eq_append_getElem hk, DiskM.donePages_snoc]
  simp [DiskM.doneOne, List.length_take, Nat.min_eq_left (Nat.le_of_lt hk)]

set_option maxRecDepth 100000 in
set_option maxHeartbeats 3200000 in
theorem rsync_any {w : World} {o : Own} {E p : Nat} {d : DiskM} (h : RefAt w o E p d) (hrow : d.row.length ≤ 1000000) :
    Calls Try.prog 73 #[.pointer (some ⟨p, 0, none⟩)] w (Ret (Only E) w o fun v w' o' => v = .int .i64 d.sync.2 ∧ RefAt w' o' E p d.sync.1) := by
  obtain ⟨hw1, hw2, -, -, -, -⟩ := h.wf
  obtain ⟨pv, rv, ⟨c0, c1, c2, c3⟩, -⟩ := h.open
  clear c0 c1 c2
  by_cases hd : d.dead = true
  · rw [hd] at c3
    have hE : d.sync = (d, 9) := by simp [DiskM.sync, DiskM.counted, DiskM.asked, hd]
    rw [hE]
    go_enter Try.func73, Try.ntmps73
    go_wp2
    go_ret
    exact ⟨_, o, rfl, Step.refl _ _ _, rfl, h⟩
  · have hd' : d.dead = false := by simpa using hd
    rw [hd'] at c3
    have hE : d.sync = if (d.counted 0).2 ≠ 0 then d.counted 0 else ((d.counted 0).1.done fun _ => 512, 0) := by
      have ha : d.asked 0 512 = 0 := by simp only [DiskM.asked, hd']; rw [if_neg (by simp), if_neg (by omega)]
      simp only [DiskM.sync, ha]
    rw [hE]
    obtain ⟨hpg, hrw⟩ := DiskM.counted_same d 0
    have hnine := counted_nine d
    obtain ⟨d1, e1, hc⟩ : ∃ d1 e1, Hid (d.counted 0 = (d1, e1)) := ⟨_, _, rfl⟩
    rw [hc.out] at hpg hrw hnine ⊢
    simp only at hpg hrw hnine ⊢
    have hrow1 : d1.row.length ≤ 1000000 := by rw [hrw]; exact hrow
    clear hE hpg hrw
    by_cases he : e1 = 0
    · subst he
      simp only [ne_eq, not_true_eq_false, if_false]
      go_enter Try.func73, Try.ntmps73
      go_wp2_with ((with_reducible refine (counts_is h hc).mono ?_); rintro e w1 ⟨v1, o1, rfl, hs1, rfl, hd1⟩)
      have hwf1 := hd1.wf
      obtain ⟨pg, pc, rv1, hmid⟩ := hd1.mid hs1
      have hdp : DiskM.donePages (fun _ => 512) d1.pages (d1.row.take 0) = d1.pages := rfl
      have hPW := DiskM.donePages_wf (fun _ => 512) (fun _ => Nat.le_refl _) d1.pages hwf1.2.2.1
      have hw4 := hwf1.2.2.2.1
      have hwfH := hidden hwf1
      have hw4H := hidden hw4
      have hPWH := hidden hPW
      clear hwf1 hPW hw4 hd1 c3
      go_loopw [3] (fun i wr => ∃ k : Nat, k ≤ d1.row.length ∧ i = .int .i64 k ∧ RefMid w o E p pg pc rv1 d1 (DiskM.donePages (fun _ => 512) d1.pages (d1.row.take k)) wr o1)
        (fun i _ => d1.row.length - (intOf i).toNat)
      case atStart => exact ⟨0, Nat.zero_le _, rfl, hmid⟩
      case round =>
        obtain ⟨k, hk, rfl, hm⟩ := hrel
        obtain ⟨cr, fr, ra, rc, hrv⟩ := hm.len
        by_cases hlt : k < d1.row.length
        · have hsn := donePages_take (fun _ => 512) d1.pages d1.row k hlt
          have hx := hw4H.out d1.row[k] (List.getElem_mem hlt)
          have hPk := hPWH.out (d1.row.take k) (fun x hx => hw4H.out x (List.mem_of_mem_take hx))
          obtain ⟨c0, g, cap, hrv2, c1, e1, e2⟩ := hm.cells k hlt
          generalize hpk : DiskM.donePages (fun _ => 512) d1.pages (d1.row.take k) = pk at *
          have hpgk := hm.page d1.row[k].1 (by rw [hPk.1]; exact hx.1) hPk.1
          have hold : (pk.getD d1.row[k].1 []).length = 512 := DiskM.getD_wf hPk.2 (by rw [hPk.1]; exact hx.1)
          have hspl : DiskM.splicePage 512 d1.row[k].2 (pk.getD d1.row[k].1 []) = d1.row[k].2 := by
            rw [DiskM.splicePage, List.take_of_length_le (by omega), List.drop_eq_nil_of_le (by omega), List.append_nil]
          rw [hspl] at hsn
          have hset := hm.drew.set d1.row[k].1 d1.row[k].2
          rw [← hsn] at hset
          subst hrv2
          simp only [Value.slice.injEq, true_and] at hrv
          obtain ⟨rfl, rfl⟩ := hrv
          have hsetH := hidden hset
          have hx1 := hx.1
          clear hset hsn hspl hold hPk hx hm cr fr
          obtain ⟨cpg, fpg⟩ := hpgk
          clear hpk
          generalize d1.row[k] = x at *
          obtain ⟨xa, xl⟩ := x
          simp only at e1 e2 hsetH cpg fpg hx1
          go_wp2_with fail
          refine wp_region_need (fun w' => w'.cell? ⟨p, 0, none⟩ = some (.slice (some ⟨pg, 0, none⟩) d1.pages.length pc) ∧ w'.cell? ⟨p, 1, none⟩ = some (.slice (some ⟨g, 0, none⟩) d1.row.length cap) ∧ w'.cell? ⟨g, k * 2, none⟩ = some (.int .i64 (xa : Int)) ∧
            w'.cell? ⟨g, k * 2 + 1, none⟩ = some (str xl)) (fun i => decide (i < 21)) (by kernel_rfl) ⟨c0, c1, e1, e2⟩ (fun hHeld => ?_)
          refine wpAnyN_take (i := 0) (v := ?_) rfl (by kernel_rfl) (by kernel_rfl) (by kernel_rfl) (by kernel_rfl) (fun _ _ _ h => h) (Or.inl ⟨by rfl, ?_⟩) (by assumption) ?_
          rotate_left
          · intro w hSw; ((try dsimp only at hSw); go_simp; (try with_reducible rfl))
          simp only [Act.put, List.setIfInBounds_toArray, List.set_cons_zero, List.set_cons_succ]
          refine wpAnyN_take (i := 1) (v := ?_) rfl (by kernel_rfl) (by kernel_rfl) (by kernel_rfl) (by kernel_rfl) (fun _ _ _ h => h) (Or.inl ⟨by rfl, ?_⟩) (by assumption) ?_
          rotate_left
          · intro w hSw; ((try dsimp only at hSw); go_simp; (try with_reducible rfl))
          simp only [Act.put, List.setIfInBounds_toArray, List.set_cons_zero, List.set_cons_succ]
          refine wpAnyN_take (i := 2) (v := ?_) rfl (by kernel_rfl) (by kernel_rfl) (by kernel_rfl) (by kernel_rfl) (fun _ _ _ h => h) (Or.inl ⟨by rfl, ?_⟩) (by assumption) ?_
          rotate_left
          · intro w hSw; ((try dsimp only at hSw); go_simp; (try with_reducible rfl))
          simp only [Act.put, List.setIfInBounds_toArray, List.set_cons_zero, List.set_cons_succ]
          refine wpAnyN_take (i := 3) (v := ?_) rfl (by kernel_rfl) (by kernel_rfl) (by kernel_rfl) (by kernel_rfl) (fun _ _ _ h => h) (Or.inl ⟨by rfl, ?_⟩) (by assumption) ?_
          rotate_left
          · intro w hSw; ((try dsimp only at hSw); go_simp; (try with_reducible rfl))
          simp only [Act.put, List.setIfInBounds_toArray, List.set_cons_zero, List.set_cons_succ]
          refine wpAnyN_take (i := 4) (v := ?_) rfl (by kernel_rfl) (by kernel_rfl) (by kernel_rfl) (by kernel_rfl) (fun _ _ _ h => h) (Or.inl ⟨by rfl, ?_⟩) (by assumption) ?_
          rotate_left
          · intro w hSw; ((try dsimp only at hSw); go_simp; (try with_reducible rfl))
          simp only [Act.put, List.setIfInBounds_toArray, List.set_cons_zero, List.set_cons_succ]
          refine wpAnyN_take (i := 5) (v := ?_) rfl (by kernel_rfl) (by kernel_rfl) (by kernel_rfl) (by kernel_rfl) (fun _ _ _ h => h) (Or.inl ⟨by rfl, ?_⟩) (by assumption) ?_
          rotate_left
          · intro w hSw; ((try dsimp only at hSw); go_simp; (try with_reducible rfl))
          simp only [Act.put, List.setIfInBounds_toArray, List.set_cons_zero, List.set_cons_succ]
          refine wpAnyN_take (i := 6) (v := ?_) rfl (by kernel_rfl) (by kernel_rfl) (by kernel_rfl) (by kernel_rfl) (fun _ _ _ h => h) (Or.inl ⟨by rfl, ?_⟩) (by assumption) ?_
          rotate_left
          · intro w hSw; ((try dsimp only at hSw); go_simp; (try with_reducible rfl))
          simp only [Act.put, List.setIfInBounds_toArray, List.set_cons_zero, List.set_cons_succ]
          refine wpAnyN_take (i := 7) (v := ?_) rfl (by kernel_rfl) (by kernel_rfl) (by kernel_rfl) (by kernel_rfl) (fun _ _ _ h => h) (Or.inl ⟨by rfl, ?_⟩) (by assumption) ?_
          rotate_left
          · intro w hSw; ((try dsimp only at hSw); go_simp; (try with_reducible rfl))
          simp only [Act.put, List.setIfInBounds_toArray, List.set_cons_zero, List.set_cons_succ]
          refine wpAnyN_take (i := 8) (v := ?_) rfl (by kernel_rfl) (by kernel_rfl) (by kernel_rfl) (by kernel_rfl) (fun _ _ _ h => h) (Or.inl ⟨by rfl, ?_⟩) (by assumption) ?_
          rotate_left
          · intro w hSw; ((try dsimp only at hSw); go_simp; (try with_reducible rfl))
          simp only [Act.put, List.setIfInBounds_toArray, List.set_cons_zero, List.set_cons_succ]
          refine wpAnyN_take (i := 9) (v := ?_) rfl (by kernel_rfl) (by kernel_rfl) (by kernel_rfl) (by kernel_rfl) (fun _ _ _ h => h) (Or.inl ⟨by rfl, ?_⟩) (by assumption) ?_
          rotate_left
          · intro w hSw; ((try dsimp only at hSw); go_simp; (try with_reducible rfl))
          simp only [Act.put, List.setIfInBounds_toArray, List.set_cons_zero, List.set_cons_succ]
          refine wpAnyN_take (i := 10) (v := ?_) rfl (by kernel_rfl) (by kernel_rfl) (by kernel_rfl) (by kernel_rfl) (fun _ _ _ h => h) (Or.inl ⟨by rfl, ?_⟩) (by assumption) ?_
          rotate_left
          · intro w hSw; ((try dsimp only at hSw); go_simp; (try with_reducible rfl))
          simp only [Act.put, List.setIfInBounds_toArray, List.set_cons_zero, List.set_cons_succ]
          refine wpAnyN_take (i := 11) (v := ?_) rfl (by kernel_rfl) (by kernel_rfl) (by kernel_rfl) (by kernel_rfl) (fun _ _ _ h => h) (Or.inl ⟨by rfl, ?_⟩) (by assumption) ?_
          rotate_left
          · intro w hSw; ((try dsimp only at hSw); go_simp; (try with_reducible rfl))
          simp only [Act.put, List.setIfInBounds_toArray, List.set_cons_zero, List.set_cons_succ]
          refine wpAnyN_take (i := 12) (v := ?_) rfl (by kernel_rfl) (by kernel_rfl) (by kernel_rfl) (by kernel_rfl) (fun _ _ _ h => h) (Or.inl ⟨by rfl, ?_⟩) (by assumption) ?_
          rotate_left
          · intro w hSw; ((try dsimp only at hSw); go_simp; (try with_reducible rfl))
          simp only [Act.put, List.setIfInBounds_toArray, List.set_cons_zero, List.set_cons_succ]
          refine wpAnyN_take (i := 13) (v := ?_) rfl (by kernel_rfl) (by kernel_rfl) (by kernel_rfl) (by kernel_rfl) (fun _ _ _ h => h) (Or.inl ⟨by rfl, ?_⟩) (by assumption) ?_
          rotate_left
          · intro w hSw; ((try dsimp only at hSw); go_simp; (try with_reducible rfl))
          simp only [Act.put, List.setIfInBounds_toArray, List.set_cons_zero, List.set_cons_succ]
          refine wpAnyN_take (i := 14) (v := ?_) rfl (by kernel_rfl) (by kernel_rfl) (by kernel_rfl) (by kernel_rfl) (fun _ _ _ h => h) (Or.inl ⟨by rfl, ?_⟩) (by assumption) ?_
          rotate_left
          · intro w hSw; ((try dsimp only at hSw); go_simp; (try with_reducible rfl))
          simp only [Act.put, List.setIfInBounds_toArray, List.set_cons_zero, List.set_cons_succ]
          refine wpAnyN_take (i := 15) (v := ?_) rfl (by kernel_rfl) (by kernel_rfl) (by kernel_rfl) (by kernel_rfl) (fun _ _ _ h => h) (Or.inl ⟨by rfl, ?_⟩) (by assumption) ?_
          rotate_left
          · intro w hSw; ((try dsimp only at hSw); go_simp; (try with_reducible rfl))
          simp only [Act.put, List.setIfInBounds_toArray, List.set_cons_zero, List.set_cons_succ]
          refine wpAnyN_take (i := 16) (v := ?_) rfl (by kernel_rfl) (by kernel_rfl) (by kernel_rfl) (by kernel_rfl) (fun _ _ _ h => h) (Or.inl ⟨by rfl, ?_⟩) (by assumption) ?_
          rotate_left
          · intro w hSw; ((try dsimp only at hSw); go_simp; (try with_reducible rfl))
          simp only [Act.put, List.setIfInBounds_toArray, List.set_cons_zero, List.set_cons_succ]
          refine wpAnyN_take (i := 17) (v := ?_) rfl (by kernel_rfl) (by kernel_rfl) (by kernel_rfl) (by kernel_rfl) (fun _ _ _ h => h) (Or.inl ⟨by rfl, ?_⟩) (by assumption) ?_
          rotate_left
          · intro w hSw; ((try dsimp only at hSw); go_simp; (try with_reducible rfl))
          simp only [Act.put, List.setIfInBounds_toArray, List.set_cons_zero, List.set_cons_succ]
          refine wpAnyN_take (i := 18) (v := ?_) rfl (by kernel_rfl) (by kernel_rfl) (by kernel_rfl) (by kernel_rfl) (fun _ _ _ h => h) (Or.inl ⟨by rfl, ?_⟩) (by assumption) ?_
          rotate_left
          · intro w hSw; ((try dsimp only at hSw); go_simp; (try with_reducible rfl))
          simp only [Act.put, List.setIfInBounds_toArray, List.set_cons_zero, List.set_cons_succ]
          refine wpAnyN_take (i := 19) (v := ?_) rfl (by kernel_rfl) (by kernel_rfl) (by kernel_rfl) (by kernel_rfl) (fun _ _ _ h => h) (Or.inl ⟨by rfl, ?_⟩) (by assumption) ?_
          rotate_left
          · intro w hSw; ((try dsimp only at hSw); go_simp; (try with_reducible rfl))
          simp only [Act.put, List.setIfInBounds_toArray, List.set_cons_zero, List.set_cons_succ]
          have cpgd : wr.drew.cell? ⟨pg, xa, none⟩ = some _ := cpg
          have fpgd : wr.drew.frozen? ⟨pg, xa, none⟩ = false := fpg
          refine wpAnyN_one (i := 20) rfl (by kernel_rfl) ?_
          go_wp2_with fail
          refine ⟨fun _ => hHeld, ?_⟩
          refine wpAnyN_one (i := 21) rfl (by kernel_rfl) ?_
          unfold str at cpgd ⊢
          go_wp2_with fail
          refine ⟨fun h => by simp at h, ?_⟩
          refine wpAnyN_done (by kernel_rfl) ?_ _
          have hsetH' : Hid (RefMid w o E p pg pc (.slice (some ⟨g, 0, none⟩) d1.row.length cap) d1 (DiskM.donePages (fun _ => 512) d1.pages (d1.row.take (k + 1))) (wr.drew.setCell ⟨pg, xa, none⟩ (.string ⟨xl.toArray⟩)) o1) := hsetH
          clear hsetH
          go_wp2_with fail
          go_roundw
          case rel => exact ⟨k + 1, hlt, by go_num, hsetH'.out⟩
          case measure => simp [intOf]; omega
        · have hk' : k = d1.row.length := by omega
          subst hk'
          rw [List.take_length] at hm
          have hfin := hm.done hwfH.out (hPWH.out d1.row hw4H.out)
          subst hrv
          have hfinH := hidden hfin
          clear hfin hm
          go_wp2_with fail
          go_ret
          exact ⟨_, o1, rfl, hfinH.out.2, rfl, hfinH.out.1⟩
    · rw [if_pos he]
      have he9 := hnine he
      subst he9
      go_enter Try.func73, Try.ntmps73
      go_wp2_with ((with_reducible refine (counts_is h hc).mono ?_); rintro e w1 ⟨v1, o1, rfl, hs1, rfl, hd1⟩)
      go_ret
      exact ⟨_, o1, rfl, hs1, rfl, hd1⟩

theorem fate_tmod (a : Int) (h : ¬ a.tmod 513 < 0) : a.tmod 513 = a % 513 := by
  rw [Int.tmod_eq_emod] at *
  split at h <;> rename_i hx
  · rw [if_pos hx]; omega
  · rw [if_neg hx]; simp at *; omega
theorem fate_tmod_neg (a : Int) (h : a.tmod 513 < 0) : a.tmod 513 + 513 = a % 513 := by
  rw [Int.tmod_eq_emod] at *
  split at h <;> rename_i hx
  · omega
  · rw [if_neg hx]; simp

set_option maxRecDepth 100000 in
set_option maxHeartbeats 3200000 in
theorem rrestart_any {w : World} {o : Own} {E p : Nat} {d : DiskM} (h : RefAt w o E p d) (hE0 : E ≠ 0) (hrow : d.row.length ≤ 1000000) (fv : Value) (l : List Int) (hl : Ints w o fv l) (hwf : ∀ a ∈ l, -9223372036854775808 ≤ a ∧ a ≤ 9223372036854775807) :
    Calls Try.prog 75 #[.pointer (some ⟨p, 0, none⟩), fv] w (Ret (Only E) w o fun v w' o' => v = .tuple #[] ∧ RefAt w' o' E p (d.restart l)) := by
  obtain ⟨hw1, hw2, -, -, -, -⟩ := h.wf
  have hlm : (l.length : Int) ≤ 9223372036854775807 := by
    rcases hl with ⟨_, hn, _⟩ | ⟨b, off, cap, hv, hlc, hm, _⟩
    · omega
    · unfold maxLen at hm; omega
  have hlA := hidden hl
  obtain ⟨fa, fc, rfl⟩ := slc_form hl
  clear hl
  have hwf1 := h.wf
  obtain ⟨pg, pc, rv1, hmid⟩ := h.mid (Step.refl (Only E) w o)
  have hPW := DiskM.donePages_wf (DiskM.fate l) (DiskM.fate_le l) d.pages hwf1.2.2.1
  have hw4 := hwf1.2.2.2.1
  have hwfH := hidden hwf1
  have hw4H := hidden hw4
  have hPWH := hidden hPW
  have hmid0 : RefMid w o E p pg pc rv1 d (DiskM.donePages (DiskM.fate l) d.pages (d.row.take 0)) w o := hmid
  have hflH := hidden hwf
  clear hwf1 hPW hw4 hmid hwf
  have hN : ¬ Only E 0 := fun h => hE0 h.symm
  go_enter Try.func75, Try.ntmps75
  go_wp2_with fail
  go_loopw [4, 5, 6] (fun i n q wr => ∃ k : Nat, k ≤ d.row.length ∧ i = .int .i64 k ∧ RefMid w o E p pg pc rv1 d (DiskM.donePages (DiskM.fate l) d.pages (d.row.take k)) wr o)
    (fun i _ _ _ => d.row.length - (intOf i).toNat)
  case atStart => exact ⟨0, Nat.zero_le _, rfl, hmid0⟩
  case round =>
    obtain ⟨k, hk, rfl, hm⟩ := hrel
    obtain ⟨cr, fr, ra, rc, hrv⟩ := hm.len
    by_cases hlt : k < d.row.length
    · have hsn := donePages_take (DiskM.fate l) d.pages d.row k hlt
      have hx := hw4H.out d.row[k] (List.getElem_mem hlt)
      have hPk := hPWH.out (d.row.take k) (fun x hx => hw4H.out x (List.mem_of_mem_take hx))
      obtain ⟨c0, g, cap, hrv2, c1, e1, e2⟩ := hm.cells k hlt
      generalize hpk : DiskM.donePages (DiskM.fate l) d.pages (d.row.take k) = pk at *
      have hpgk := hm.page d.row[k].1 (by rw [hPk.1]; exact hx.1) hPk.1
      have hold : (pk.getD d.row[k].1 []).length = 512 := DiskM.getD_wf hPk.2 (by rw [hPk.1]; exact hx.1)
      have hfl := DiskM.fate_le l k
      rw [DiskM.splicePage] at hsn
      have hset := hm.drew.set d.row[k].1 (d.row[k].2.take (DiskM.fate l k) ++ (pk.getD d.row[k].1 []).drop (DiskM.fate l k))
      rw [← hsn] at hset
      have hints : Ints wr o (.slice fa l.length fc) l := hlA.out.step hm.1 hN
      subst hrv2
      simp only [Value.slice.injEq, true_and] at hrv
      obtain ⟨rfl, rfl⟩ := hrv
      have hx1 := hx.1
      have hx2 := hidden hx.2
      have holdH := hidden hold
      have hsetH := hidden hset
      clear hset hsn hPk hx hm cr fr hold
      obtain ⟨cpg, fpg⟩ := hpgk
      clear hpk
      generalize pk.getD d.row[k].1 [] = page at *
      generalize d.row[k] = x at *
      obtain ⟨xa, xl⟩ := x
      simp only at e1 e2 hsetH cpg fpg hx1 hx2
      -- the fate
      have hfate : ∃ f : Nat, f = DiskM.fate l k ∧ f ≤ 512 := ⟨_, rfl, hfl⟩
      obtain ⟨f, hf, hf512⟩ := hfate
      rw [← hf] at hsetH hfl
      have rest : Hid (∀ W : World, W = wr.drew → True) := fun _ _ => trivial
      by_cases hkl : k < l.length
      · obtain ⟨b, off, hb1, hci⟩ : ∃ b off, fa = some ⟨b, off, none⟩ ∧ wr.cell? ⟨b, off + k, none⟩ = some (.int .i64 l[k]) := by
          rcases hints with ⟨_, hn, _⟩ | ⟨b, off, cap, hv, hlc, hm, ho, hb, hr⟩
          · omega
          · simp only [Value.slice.injEq, true_and] at hv
            exact ⟨b, off, hv.1, hr k _ (by simp [ivs, hkl])⟩
        subst hb1
        have hbd := hflH.out l[k] (List.getElem_mem hkl)
        have hfe : (f : Int) = l[k] % 513 := by
          rw [hf]
          simp only [DiskM.fate, List.getD_eq_getElem?_getD, List.getElem?_eq_getElem hkl, Option.getD_some]
          omega
        generalize l[k] = a at *
        have b1 := hbd.1
        have b2 := hbd.2
        clear hbd hints
        have g1 : -513 < a.tmod 513 := by have := Int.tmod_lt_of_pos a (show (0:Int) < 513 by omega); have h2 := Int.lt_tmod_of_pos a (show (0:Int) < 513 by omega); omega
        have g2 : a.tmod 513 < 513 := Int.tmod_lt_of_pos a (by omega)
        by_cases hneg : a.tmod 513 < 0
        · have ht := fate_tmod_neg a hneg
          rw [← hfe] at ht
          have htH := hidden ht
          have hfeH := hidden hfe
          clear ht hfe hf
          go_wp2_with fail
          rw [htH.out]
          clear hneg g1 g2 htH hfeH b1 b2 hci
          refine wp_region_need (fun w' => w'.cell? ⟨p, 0, none⟩ = some (.slice (some ⟨pg, 0, none⟩) d.pages.length pc) ∧ w'.cell? ⟨p, 1, none⟩ = some (.slice (some ⟨g, 0, none⟩) d.row.length cap) ∧
            w'.cell? ⟨g, k * 2 + 1, none⟩ = some (str xl) ∧ w'.cell? ⟨pg, xa, none⟩ = some (str page)) (fun i => decide (i < 26)) (by kernel_rfl) ⟨c0, c1, e2, cpg⟩ (fun hHeld => ?_)
          refine wpAnyN_take (i := 0) (v := ?_) rfl (by kernel_rfl) (by kernel_rfl) (by kernel_rfl) (by kernel_rfl) (fun _ _ _ h => h) (Or.inl ⟨by rfl, ?_⟩) (by assumption) ?_
          rotate_left
          · intro w hSw; ((try dsimp only at hSw); go_simp; (try with_reducible rfl))
          simp only [Act.put, List.setIfInBounds_toArray, List.set_cons_zero, List.set_cons_succ]
          refine wpAnyN_take (i := 1) (v := ?_) rfl (by kernel_rfl) (by kernel_rfl) (by kernel_rfl) (by kernel_rfl) (fun _ _ _ h => h) (Or.inl ⟨by rfl, ?_⟩) (by assumption) ?_
          rotate_left
          · intro w hSw; ((try dsimp only at hSw); go_simp; (try with_reducible rfl))
          simp only [Act.put, List.setIfInBounds_toArray, List.set_cons_zero, List.set_cons_succ]
          refine wpAnyN_take (i := 2) (v := ?_) rfl (by kernel_rfl) (by kernel_rfl) (by kernel_rfl) (by kernel_rfl) (fun _ _ _ h => h) (Or.inl ⟨by rfl, ?_⟩) (by assumption) ?_
          rotate_left
          · intro w hSw; ((try dsimp only at hSw); go_simp; (try with_reducible rfl))
          simp only [Act.put, List.setIfInBounds_toArray, List.set_cons_zero, List.set_cons_succ]
          refine wpAnyN_take (i := 3) (v := ?_) rfl (by kernel_rfl) (by kernel_rfl) (by kernel_rfl) (by kernel_rfl) (fun _ _ _ h => h) (Or.inl ⟨by rfl, ?_⟩) (by assumption) ?_
          rotate_left
          · intro w hSw; ((try dsimp only at hSw); go_simp; (try with_reducible rfl))
          simp only [Act.put, List.setIfInBounds_toArray, List.set_cons_zero, List.set_cons_succ]
          refine wpAnyN_take (i := 4) (v := ?_) rfl (by kernel_rfl) (by kernel_rfl) (by kernel_rfl) (by kernel_rfl) (fun _ _ _ h => h) (Or.inl ⟨by rfl, ?_⟩) (by assumption) ?_
          rotate_left
          · intro w hSw; ((try dsimp only at hSw); go_simp; (try with_reducible rfl))
          simp only [Act.put, List.setIfInBounds_toArray, List.set_cons_zero, List.set_cons_succ]
          refine wpAnyN_take (i := 5) (v := ?_) rfl (by kernel_rfl) (by kernel_rfl) (by kernel_rfl) (by kernel_rfl) (fun _ _ _ h => h) (Or.inl ⟨by rfl, ?_⟩) (by assumption) ?_
          rotate_left
          · intro w hSw; ((try dsimp only at hSw); go_simp; (try with_reducible rfl))
          simp only [Act.put, List.setIfInBounds_toArray, List.set_cons_zero, List.set_cons_succ]
          refine wpAnyN_take (i := 6) (v := ?_) rfl (by kernel_rfl) (by kernel_rfl) (by kernel_rfl) (by kernel_rfl) (fun _ _ _ h => h) (Or.inl ⟨by rfl, ?_⟩) (by assumption) ?_
          rotate_left
          · intro w hSw; ((try dsimp only at hSw); go_simp; (try with_reducible rfl))
          simp only [Act.put, List.setIfInBounds_toArray, List.set_cons_zero, List.set_cons_succ]
          refine wpAnyN_take (i := 7) (v := ?_) rfl (by kernel_rfl) (by kernel_rfl) (by kernel_rfl) (by kernel_rfl) (fun _ _ _ h => h) (Or.inl ⟨by rfl, ?_⟩) (by assumption) ?_
          rotate_left
          · intro w hSw; ((try dsimp only at hSw); go_simp; (try with_reducible rfl))
          simp only [Act.put, List.setIfInBounds_toArray, List.set_cons_zero, List.set_cons_succ]
          refine wpAnyN_take (i := 8) (v := ?_) rfl (by kernel_rfl) (by kernel_rfl) (by kernel_rfl) (by kernel_rfl) (fun _ _ _ h => h) (Or.inl ⟨by rfl, ?_⟩) (by assumption) ?_
          rotate_left
          · intro w hSw; ((try dsimp only at hSw); go_simp; (try with_reducible rfl))
          simp only [Act.put, List.setIfInBounds_toArray, List.set_cons_zero, List.set_cons_succ]
          refine wpAnyN_take (i := 9) (v := ?_) rfl (by kernel_rfl) (by kernel_rfl) (by kernel_rfl) (by kernel_rfl) (fun _ _ _ h => h) (Or.inl ⟨by rfl, ?_⟩) (by assumption) ?_
          rotate_left
          · intro w hSw; ((try dsimp only at hSw); go_simp; (try with_reducible rfl))
          simp only [Act.put, List.setIfInBounds_toArray, List.set_cons_zero, List.set_cons_succ]
          refine wpAnyN_take (i := 10) (v := ?_) rfl (by kernel_rfl) (by kernel_rfl) (by kernel_rfl) (by kernel_rfl) (fun _ _ _ h => h) (Or.inl ⟨by rfl, ?_⟩) (by assumption) ?_
          rotate_left
          · intro w hSw; ((try dsimp only at hSw); go_simp; (try with_reducible rfl))
          simp only [Act.put, List.setIfInBounds_toArray, List.set_cons_zero, List.set_cons_succ]
          refine wpAnyN_take (i := 11) (v := ?_) rfl (by kernel_rfl) (by kernel_rfl) (by kernel_rfl) (by kernel_rfl) (fun _ _ _ h => h) (Or.inl ⟨by rfl, ?_⟩) (by assumption) ?_
          rotate_left
          · intro w hSw; ((try dsimp only at hSw); go_simp; (try with_reducible rfl))
          simp only [Act.put, List.setIfInBounds_toArray, List.set_cons_zero, List.set_cons_succ]
          refine wpAnyN_take (i := 12) (v := ?_) rfl (by kernel_rfl) (by kernel_rfl) (by kernel_rfl) (by kernel_rfl) (fun _ _ _ h => h) (Or.inl ⟨by rfl, ?_⟩) (by assumption) ?_
          rotate_left
          · intro w hSw; ((try dsimp only at hSw); go_simp; (try with_reducible rfl))
          simp only [Act.put, List.setIfInBounds_toArray, List.set_cons_zero, List.set_cons_succ]
          refine wpAnyN_take (i := 13) (v := ?_) rfl (by kernel_rfl) (by kernel_rfl) (by kernel_rfl) (by kernel_rfl) (fun _ _ _ h => h) (Or.inl ⟨by rfl, ?_⟩) (by assumption) ?_
          rotate_left
          · intro w hSw; ((try dsimp only at hSw); go_simp; (try with_reducible rfl))
          simp only [Act.put, List.setIfInBounds_toArray, List.set_cons_zero, List.set_cons_succ]
          refine wpAnyN_take (i := 14) (v := str (xl.take f)) rfl (by kernel_rfl) (by kernel_rfl) (by kernel_rfl) (by kernel_rfl) (fun _ _ _ h => h) (yields_run rfl (fun w hSw => ?_)) (by assumption) ?_
          · refine exec_slice 9 (.tmp 49) none (some (.tmp 50)) none rfl ?_
            exact (run_str_take w xl f (by have := hx2.out; omega))
          simp only [Act.put, List.setIfInBounds_toArray, List.set_cons_zero, List.set_cons_succ]
          refine wpAnyN_take (i := 15) (v := ?_) rfl (by kernel_rfl) (by kernel_rfl) (by kernel_rfl) (by kernel_rfl) (fun _ _ _ h => h) (Or.inl ⟨by rfl, ?_⟩) (by assumption) ?_
          rotate_left
          · intro w hSw; ((try dsimp only at hSw); go_simp; (try with_reducible rfl))
          simp only [Act.put, List.setIfInBounds_toArray, List.set_cons_zero, List.set_cons_succ]
          refine wpAnyN_take (i := 16) (v := ?_) rfl (by kernel_rfl) (by kernel_rfl) (by kernel_rfl) (by kernel_rfl) (fun _ _ _ h => h) (Or.inl ⟨by rfl, ?_⟩) (by assumption) ?_
          rotate_left
          · intro w hSw; ((try dsimp only at hSw); go_simp; (try with_reducible rfl))
          simp only [Act.put, List.setIfInBounds_toArray, List.set_cons_zero, List.set_cons_succ]
          refine wpAnyN_take (i := 17) (v := ?_) rfl (by kernel_rfl) (by kernel_rfl) (by kernel_rfl) (by kernel_rfl) (fun _ _ _ h => h) (Or.inl ⟨by rfl, ?_⟩) (by assumption) ?_
          rotate_left
          · intro w hSw; ((try dsimp only at hSw); go_simp; (try with_reducible rfl))
          simp only [Act.put, List.setIfInBounds_toArray, List.set_cons_zero, List.set_cons_succ]
          refine wpAnyN_take (i := 18) (v := ?_) rfl (by kernel_rfl) (by kernel_rfl) (by kernel_rfl) (by kernel_rfl) (fun _ _ _ h => h) (Or.inl ⟨by rfl, ?_⟩) (by assumption) ?_
          rotate_left
          · intro w hSw; ((try dsimp only at hSw); go_simp; (try with_reducible rfl))
          simp only [Act.put, List.setIfInBounds_toArray, List.set_cons_zero, List.set_cons_succ]
          refine wpAnyN_take (i := 19) (v := ?_) rfl (by kernel_rfl) (by kernel_rfl) (by kernel_rfl) (by kernel_rfl) (fun _ _ _ h => h) (Or.inl ⟨by rfl, ?_⟩) (by assumption) ?_
          rotate_left
          · intro w hSw; ((try dsimp only at hSw); go_simp; (try with_reducible rfl))
          simp only [Act.put, List.setIfInBounds_toArray, List.set_cons_zero, List.set_cons_succ]
          refine wpAnyN_take (i := 20) (v := ?_) rfl (by kernel_rfl) (by kernel_rfl) (by kernel_rfl) (by kernel_rfl) (fun _ _ _ h => h) (Or.inl ⟨by rfl, ?_⟩) (by assumption) ?_
          rotate_left
          · intro w hSw; ((try dsimp only at hSw); go_simp; (try with_reducible rfl))
          simp only [Act.put, List.setIfInBounds_toArray, List.set_cons_zero, List.set_cons_succ]
          refine wpAnyN_take (i := 21) (v := ?_) rfl (by kernel_rfl) (by kernel_rfl) (by kernel_rfl) (by kernel_rfl) (fun _ _ _ h => h) (Or.inl ⟨by rfl, ?_⟩) (by assumption) ?_
          rotate_left
          · intro w hSw; ((try dsimp only at hSw); go_simp; (try with_reducible rfl))
          simp only [Act.put, List.setIfInBounds_toArray, List.set_cons_zero, List.set_cons_succ]
          refine wpAnyN_take (i := 22) (v := ?_) rfl (by kernel_rfl) (by kernel_rfl) (by kernel_rfl) (by kernel_rfl) (fun _ _ _ h => h) (Or.inl ⟨by rfl, ?_⟩) (by assumption) ?_
          rotate_left
          · intro w hSw; ((try dsimp only at hSw); go_simp; (try with_reducible rfl))
          simp only [Act.put, List.setIfInBounds_toArray, List.set_cons_zero, List.set_cons_succ]
          refine wpAnyN_take (i := 23) (v := str (page.drop f)) rfl (by kernel_rfl) (by kernel_rfl) (by kernel_rfl) (by kernel_rfl) (fun _ _ _ h => h) (yields_run rfl (fun w hSw => ?_)) (by assumption) ?_
          · refine exec_slice 9 (.tmp 58) (some (.tmp 59)) none none rfl ?_
            exact (run_str_drop w page f (by have := holdH.out; omega))
          simp only [Act.put, List.setIfInBounds_toArray, List.set_cons_zero, List.set_cons_succ]
          refine wpAnyN_take (i := 24) (v := str (xl.take f ++ page.drop f)) rfl (by kernel_rfl) (by kernel_rfl) (by kernel_rfl) (by kernel_rfl) (fun _ _ _ h => h) (yields_run rfl (fun w hSw => ?_)) (by assumption) ?_
          · refine exec_add 9 9 (.tmp 51) (.tmp 60) rfl ?_
            exact (run_str_add w (xl.take f) (page.drop f) (by have := hx2.out; have := holdH.out; rw [List.length_take, List.length_drop]; omega))
          simp only [Act.put, List.setIfInBounds_toArray, List.set_cons_zero, List.set_cons_succ]
          have cpgd : wr.drew.cell? ⟨pg, xa, none⟩ = some _ := cpg
          have fpgd : wr.drew.frozen? ⟨pg, xa, none⟩ = false := fpg
          refine wpAnyN_one (i := 25) rfl (by kernel_rfl) ?_
          go_wp2_with fail
          refine ⟨fun _ => hHeld, ?_⟩
          refine wpAnyN_one (i := 26) rfl (by kernel_rfl) ?_
          have hsetH' : Hid (RefMid w o E p pg pc (.slice (some ⟨g, 0, none⟩) d.row.length cap) d (DiskM.donePages (DiskM.fate l) d.pages (d.row.take (k + 1))) (wr.drew.setCell ⟨pg, xa, none⟩ (str (xl.take f ++ page.drop f))) o) := hsetH
          clear hsetH
          generalize xl.take f ++ page.drop f = nw at *
          unfold str at cpgd hsetH' ⊢
          go_wp2_with fail
          refine ⟨fun h => by simp at h, ?_⟩
          refine wpAnyN_done (by kernel_rfl) ?_ _
          go_wp2_with fail
          go_roundw
          case rel => exact ⟨k + 1, hlt, by go_num, hsetH'.out⟩
          case measure => simp [intOf]; omega
        · have ht := fate_tmod a hneg
          rw [← hfe] at ht
          have htH := hidden ht
          have hfeH := hidden hfe
          clear ht hfe hf
          go_wp2_with fail
          rw [htH.out]
          clear hneg g1 g2 htH hfeH b1 b2 hci
          refine wp_region_need (fun w' => w'.cell? ⟨p, 0, none⟩ = some (.slice (some ⟨pg, 0, none⟩) d.pages.length pc) ∧ w'.cell? ⟨p, 1, none⟩ = some (.slice (some ⟨g, 0, none⟩) d.row.length cap) ∧
            w'.cell? ⟨g, k * 2 + 1, none⟩ = some (str xl) ∧ w'.cell? ⟨pg, xa, none⟩ = some (str page)) (fun i => decide (i < 26)) (by kernel_rfl) ⟨c0, c1, e2, cpg⟩ (fun hHeld => ?_)
          refine wpAnyN_take (i := 0) (v := ?_) rfl (by kernel_rfl) (by kernel_rfl) (by kernel_rfl) (by kernel_rfl) (fun _ _ _ h => h) (Or.inl ⟨by rfl, ?_⟩) (by assumption) ?_
          rotate_left
          · intro w hSw; ((try dsimp only at hSw); go_simp; (try with_reducible rfl))
          simp only [Act.put, List.setIfInBounds_toArray, List.set_cons_zero, List.set_cons_succ]
          refine wpAnyN_take (i := 1) (v := ?_) rfl (by kernel_rfl) (by kernel_rfl) (by kernel_rfl) (by kernel_rfl) (fun _ _ _ h => h) (Or.inl ⟨by rfl, ?_⟩) (by assumption) ?_
          rotate_left
          · intro w hSw; ((try dsimp only at hSw); go_simp; (try with_reducible rfl))
          simp only [Act.put, List.setIfInBounds_toArray, List.set_cons_zero, List.set_cons_succ]
          refine wpAnyN_take (i := 2) (v := ?_) rfl (by kernel_rfl) (by kernel_rfl) (by kernel_rfl) (by kernel_rfl) (fun _ _ _ h => h) (Or.inl ⟨by rfl, ?_⟩) (by assumption) ?_
          rotate_left
          · intro w hSw; ((try dsimp only at hSw); go_simp; (try with_reducible rfl))
          simp only [Act.put, List.setIfInBounds_toArray, List.set_cons_zero, List.set_cons_succ]
          refine wpAnyN_take (i := 3) (v := ?_) rfl (by kernel_rfl) (by kernel_rfl) (by kernel_rfl) (by kernel_rfl) (fun _ _ _ h => h) (Or.inl ⟨by rfl, ?_⟩) (by assumption) ?_
          rotate_left
          · intro w hSw; ((try dsimp only at hSw); go_simp; (try with_reducible rfl))
          simp only [Act.put, List.setIfInBounds_toArray, List.set_cons_zero, List.set_cons_succ]
          refine wpAnyN_take (i := 4) (v := ?_) rfl (by kernel_rfl) (by kernel_rfl) (by kernel_rfl) (by kernel_rfl) (fun _ _ _ h => h) (Or.inl ⟨by rfl, ?_⟩) (by assumption) ?_
          rotate_left
          · intro w hSw; ((try dsimp only at hSw); go_simp; (try with_reducible rfl))
          simp only [Act.put, List.setIfInBounds_toArray, List.set_cons_zero, List.set_cons_succ]
          refine wpAnyN_take (i := 5) (v := ?_) rfl (by kernel_rfl) (by kernel_rfl) (by kernel_rfl) (by kernel_rfl) (fun _ _ _ h => h) (Or.inl ⟨by rfl, ?_⟩) (by assumption) ?_
          rotate_left
          · intro w hSw; ((try dsimp only at hSw); go_simp; (try with_reducible rfl))
          simp only [Act.put, List.setIfInBounds_toArray, List.set_cons_zero, List.set_cons_succ]
          refine wpAnyN_take (i := 6) (v := ?_) rfl (by kernel_rfl) (by kernel_rfl) (by kernel_rfl) (by kernel_rfl) (fun _ _ _ h => h) (Or.inl ⟨by rfl, ?_⟩) (by assumption) ?_
          rotate_left
          · intro w hSw; ((try dsimp only at hSw); go_simp; (try with_reducible rfl))
          simp only [Act.put, List.setIfInBounds_toArray, List.set_cons_zero, List.set_cons_succ]
          refine wpAnyN_take (i := 7) (v := ?_) rfl (by kernel_rfl) (by kernel_rfl) (by kernel_rfl) (by kernel_rfl) (fun _ _ _ h => h) (Or.inl ⟨by rfl, ?_⟩) (by assumption) ?_
          rotate_left
          · intro w hSw; ((try dsimp only at hSw); go_simp; (try with_reducible rfl))
          simp only [Act.put, List.setIfInBounds_toArray, List.set_cons_zero, List.set_cons_succ]
          refine wpAnyN_take (i := 8) (v := ?_) rfl (by kernel_rfl) (by kernel_rfl) (by kernel_rfl) (by kernel_rfl) (fun _ _ _ h => h) (Or.inl ⟨by rfl, ?_⟩) (by assumption) ?_
          rotate_left
          · intro w hSw; ((try dsimp only at hSw); go_simp; (try with_reducible rfl))
          simp only [Act.put, List.setIfInBounds_toArray, List.set_cons_zero, List.set_cons_succ]
          refine wpAnyN_take (i := 9) (v := ?_) rfl (by kernel_rfl) (by kernel_rfl) (by kernel_rfl) (by kernel_rfl) (fun _ _ _ h => h) (Or.inl ⟨by rfl, ?_⟩) (by assumption) ?_
          rotate_left
          · intro w hSw; ((try dsimp only at hSw); go_simp; (try with_reducible rfl))
          simp only [Act.put, List.setIfInBounds_toArray, List.set_cons_zero, List.set_cons_succ]
          refine wpAnyN_take (i := 10) (v := ?_) rfl (by kernel_rfl) (by kernel_rfl) (by kernel_rfl) (by kernel_rfl) (fun _ _ _ h => h) (Or.inl ⟨by rfl, ?_⟩) (by assumption) ?_
          rotate_left
          · intro w hSw; ((try dsimp only at hSw); go_simp; (try with_reducible rfl))
          simp only [Act.put, List.setIfInBounds_toArray, List.set_cons_zero, List.set_cons_succ]
          refine wpAnyN_take (i := 11) (v := ?_) rfl (by kernel_rfl) (by kernel_rfl) (by kernel_rfl) (by kernel_rfl) (fun _ _ _ h => h) (Or.inl ⟨by rfl, ?_⟩) (by assumption) ?_
          rotate_left
          · intro w hSw; ((try dsimp only at hSw); go_simp; (try with_reducible rfl))
          simp only [Act.put, List.setIfInBounds_toArray, List.set_cons_zero, List.set_cons_succ]
          refine wpAnyN_take (i := 12) (v := ?_) rfl (by kernel_rfl) (by kernel_rfl) (by kernel_rfl) (by kernel_rfl) (fun _ _ _ h => h) (Or.inl ⟨by rfl, ?_⟩) (by assumption) ?_
          rotate_left
          · intro w hSw; ((try dsimp only at hSw); go_simp; (try with_reducible rfl))
          simp only [Act.put, List.setIfInBounds_toArray, List.set_cons_zero, List.set_cons_succ]
          refine wpAnyN_take (i := 13) (v := ?_) rfl (by kernel_rfl) (by kernel_rfl) (by kernel_rfl) (by kernel_rfl) (fun _ _ _ h => h) (Or.inl ⟨by rfl, ?_⟩) (by assumption) ?_
          rotate_left
          · intro w hSw; ((try dsimp only at hSw); go_simp; (try with_reducible rfl))
          simp only [Act.put, List.setIfInBounds_toArray, List.set_cons_zero, List.set_cons_succ]
          refine wpAnyN_take (i := 14) (v := str (xl.take f)) rfl (by kernel_rfl) (by kernel_rfl) (by kernel_rfl) (by kernel_rfl) (fun _ _ _ h => h) (yields_run rfl (fun w hSw => ?_)) (by assumption) ?_
          · refine exec_slice 9 (.tmp 49) none (some (.tmp 50)) none rfl ?_
            exact (run_str_take w xl f (by have := hx2.out; omega))
          simp only [Act.put, List.setIfInBounds_toArray, List.set_cons_zero, List.set_cons_succ]
          refine wpAnyN_take (i := 15) (v := ?_) rfl (by kernel_rfl) (by kernel_rfl) (by kernel_rfl) (by kernel_rfl) (fun _ _ _ h => h) (Or.inl ⟨by rfl, ?_⟩) (by assumption) ?_
          rotate_left
          · intro w hSw; ((try dsimp only at hSw); go_simp; (try with_reducible rfl))
          simp only [Act.put, List.setIfInBounds_toArray, List.set_cons_zero, List.set_cons_succ]
          refine wpAnyN_take (i := 16) (v := ?_) rfl (by kernel_rfl) (by kernel_rfl) (by kernel_rfl) (by kernel_rfl) (fun _ _ _ h => h) (Or.inl ⟨by rfl, ?_⟩) (by assumption) ?_
          rotate_left
          · intro w hSw; ((try dsimp only at hSw); go_simp; (try with_reducible rfl))
          simp only [Act.put, List.setIfInBounds_toArray, List.set_cons_zero, List.set_cons_succ]
          refine wpAnyN_take (i := 17) (v := ?_) rfl (by kernel_rfl) (by kernel_rfl) (by kernel_rfl) (by kernel_rfl) (fun _ _ _ h => h) (Or.inl ⟨by rfl, ?_⟩) (by assumption) ?_
          rotate_left
          · intro w hSw; ((try dsimp only at hSw); go_simp; (try with_reducible rfl))
          simp only [Act.put, List.setIfInBounds_toArray, List.set_cons_zero, List.set_cons_succ]
          refine wpAnyN_take (i := 18) (v := ?_) rfl (by kernel_rfl) (by kernel_rfl) (by kernel_rfl) (by kernel_rfl) (fun _ _ _ h => h) (Or.inl ⟨by rfl, ?_⟩) (by assumption) ?_
          rotate_left
          · intro w hSw; ((try dsimp only at hSw); go_simp; (try with_reducible rfl))
          simp only [Act.put, List.setIfInBounds_toArray, List.set_cons_zero, List.set_cons_succ]
          refine wpAnyN_take (i := 19) (v := ?_) rfl (by kernel_rfl) (by kernel_rfl) (by kernel_rfl) (by kernel_rfl) (fun _ _ _ h => h) (Or.inl ⟨by rfl, ?_⟩) (by assumption) ?_
          rotate_left
          · intro w hSw; ((try dsimp only at hSw); go_simp; (try with_reducible rfl))
          simp only [Act.put, List.setIfInBounds_toArray, List.set_cons_zero, List.set_cons_succ]
          refine wpAnyN_take (i := 20) (v := ?_) rfl (by kernel_rfl) (by kernel_rfl) (by kernel_rfl) (by kernel_rfl) (fun _ _ _ h => h) (Or.inl ⟨by rfl, ?_⟩) (by assumption) ?_
          rotate_left
          · intro w hSw; ((try dsimp only at hSw); go_simp; (try with_reducible rfl))
          simp only [Act.put, List.setIfInBounds_toArray, List.set_cons_zero, List.set_cons_succ]
          refine wpAnyN_take (i := 21) (v := ?_) rfl (by kernel_rfl) (by kernel_rfl) (by kernel_rfl) (by kernel_rfl) (fun _ _ _ h => h) (Or.inl ⟨by rfl, ?_⟩) (by assumption) ?_
          rotate_left
          · intro w hSw; ((try dsimp only at hSw); go_simp; (try with_reducible rfl))
          simp only [Act.put, List.setIfInBounds_toArray, List.set_cons_zero, List.set_cons_succ]
          refine wpAnyN_take (i := 22) (v := ?_) rfl (by kernel_rfl) (by kernel_rfl) (by kernel_rfl) (by kernel_rfl) (fun _ _ _ h => h) (Or.inl ⟨by rfl, ?_⟩) (by assumption) ?_
          rotate_left
          · intro w hSw; ((try dsimp only at hSw); go_simp; (try with_reducible rfl))
          simp only [Act.put, List.setIfInBounds_toArray, List.set_cons_zero, List.set_cons_succ]
          refine wpAnyN_take (i := 23) (v := str (page.drop f)) rfl (by kernel_rfl) (by kernel_rfl) (by kernel_rfl) (by kernel_rfl) (fun _ _ _ h => h) (yields_run rfl (fun w hSw => ?_)) (by assumption) ?_
          · refine exec_slice 9 (.tmp 58) (some (.tmp 59)) none none rfl ?_
            exact (run_str_drop w page f (by have := holdH.out; omega))
          simp only [Act.put, List.setIfInBounds_toArray, List.set_cons_zero, List.set_cons_succ]
          refine wpAnyN_take (i := 24) (v := str (xl.take f ++ page.drop f)) rfl (by kernel_rfl) (by kernel_rfl) (by kernel_rfl) (by kernel_rfl) (fun _ _ _ h => h) (yields_run rfl (fun w hSw => ?_)) (by assumption) ?_
          · refine exec_add 9 9 (.tmp 51) (.tmp 60) rfl ?_
            exact (run_str_add w (xl.take f) (page.drop f) (by have := hx2.out; have := holdH.out; rw [List.length_take, List.length_drop]; omega))
          simp only [Act.put, List.setIfInBounds_toArray, List.set_cons_zero, List.set_cons_succ]
          have cpgd : wr.drew.cell? ⟨pg, xa, none⟩ = some _ := cpg
          have fpgd : wr.drew.frozen? ⟨pg, xa, none⟩ = false := fpg
          refine wpAnyN_one (i := 25) rfl (by kernel_rfl) ?_
          go_wp2_with fail
          refine ⟨fun _ => hHeld, ?_⟩
          refine wpAnyN_one (i := 26) rfl (by kernel_rfl) ?_
          have hsetH' : Hid (RefMid w o E p pg pc (.slice (some ⟨g, 0, none⟩) d.row.length cap) d (DiskM.donePages (DiskM.fate l) d.pages (d.row.take (k + 1))) (wr.drew.setCell ⟨pg, xa, none⟩ (str (xl.take f ++ page.drop f))) o) := hsetH
          clear hsetH
          generalize xl.take f ++ page.drop f = nw at *
          unfold str at cpgd hsetH' ⊢
          go_wp2_with fail
          refine ⟨fun h => by simp at h, ?_⟩
          refine wpAnyN_done (by kernel_rfl) ?_ _
          go_wp2_with fail
          go_roundw
          case rel => exact ⟨k + 1, hlt, by go_num, hsetH'.out⟩
          case measure => simp [intOf]; omega
      · have hf0 : f = 0 := by
          rw [hf]
          simp only [DiskM.fate, List.getD_eq_getElem?_getD]
          rw [List.getElem?_eq_none (by omega)]; simp
        subst hf0
        clear hf hints
        go_wp2_with fail
        refine wp_region_need (fun w' => w'.cell? ⟨p, 0, none⟩ = some (.slice (some ⟨pg, 0, none⟩) d.pages.length pc) ∧ w'.cell? ⟨p, 1, none⟩ = some (.slice (some ⟨g, 0, none⟩) d.row.length cap) ∧
          w'.cell? ⟨g, k * 2 + 1, none⟩ = some (str xl) ∧ w'.cell? ⟨pg, xa, none⟩ = some (str page)) (fun i => decide (i < 26)) (by kernel_rfl) ⟨c0, c1, e2, cpg⟩ (fun hHeld => ?_)
        refine wpAnyN_take (i := 0) (v := ?_) rfl (by kernel_rfl) (by kernel_rfl) (by kernel_rfl) (by kernel_rfl) (fun _ _ _ h => h) (Or.inl ⟨by rfl, ?_⟩) (by assumption) ?_
        rotate_left
        · intro w hSw; ((try dsimp only at hSw); go_simp; (try with_reducible rfl))
        simp only [Act.put, List.setIfInBounds_toArray, List.set_cons_zero, List.set_cons_succ]
        refine wpAnyN_take (i := 1) (v := ?_) rfl (by kernel_rfl) (by kernel_rfl) (by kernel_rfl) (by kernel_rfl) (fun _ _ _ h => h) (Or.inl ⟨by rfl, ?_⟩) (by assumption) ?_
        rotate_left
        · intro w hSw; ((try dsimp only at hSw); go_simp; (try with_reducible rfl))
        simp only [Act.put, List.setIfInBounds_toArray, List.set_cons_zero, List.set_cons_succ]
        refine wpAnyN_take (i := 2) (v := ?_) rfl (by kernel_rfl) (by kernel_rfl) (by kernel_rfl) (by kernel_rfl) (fun _ _ _ h => h) (Or.inl ⟨by rfl, ?_⟩) (by assumption) ?_
        rotate_left
        · intro w hSw; ((try dsimp only at hSw); go_simp; (try with_reducible rfl))
        simp only [Act.put, List.setIfInBounds_toArray, List.set_cons_zero, List.set_cons_succ]
        refine wpAnyN_take (i := 3) (v := ?_) rfl (by kernel_rfl) (by kernel_rfl) (by kernel_rfl) (by kernel_rfl) (fun _ _ _ h => h) (Or.inl ⟨by rfl, ?_⟩) (by assumption) ?_
        rotate_left
        · intro w hSw; ((try dsimp only at hSw); go_simp; (try with_reducible rfl))
        simp only [Act.put, List.setIfInBounds_toArray, List.set_cons_zero, List.set_cons_succ]
        refine wpAnyN_take (i := 4) (v := ?_) rfl (by kernel_rfl) (by kernel_rfl) (by kernel_rfl) (by kernel_rfl) (fun _ _ _ h => h) (Or.inl ⟨by rfl, ?_⟩) (by assumption) ?_
        rotate_left
        · intro w hSw; ((try dsimp only at hSw); go_simp; (try with_reducible rfl))
        simp only [Act.put, List.setIfInBounds_toArray, List.set_cons_zero, List.set_cons_succ]
        refine wpAnyN_take (i := 5) (v := ?_) rfl (by kernel_rfl) (by kernel_rfl) (by kernel_rfl) (by kernel_rfl) (fun _ _ _ h => h) (Or.inl ⟨by rfl, ?_⟩) (by assumption) ?_
        rotate_left
        · intro w hSw; ((try dsimp only at hSw); go_simp; (try with_reducible rfl))
        simp only [Act.put, List.setIfInBounds_toArray, List.set_cons_zero, List.set_cons_succ]
        refine wpAnyN_take (i := 6) (v := ?_) rfl (by kernel_rfl) (by kernel_rfl) (by kernel_rfl) (by kernel_rfl) (fun _ _ _ h => h) (Or.inl ⟨by rfl, ?_⟩) (by assumption) ?_
        rotate_left
        · intro w hSw; ((try dsimp only at hSw); go_simp; (try with_reducible rfl))
        simp only [Act.put, List.setIfInBounds_toArray, List.set_cons_zero, List.set_cons_succ]
        refine wpAnyN_take (i := 7) (v := ?_) rfl (by kernel_rfl) (by kernel_rfl) (by kernel_rfl) (by kernel_rfl) (fun _ _ _ h => h) (Or.inl ⟨by rfl, ?_⟩) (by assumption) ?_
        rotate_left
        · intro w hSw; ((try dsimp only at hSw); go_simp; (try with_reducible rfl))
        simp only [Act.put, List.setIfInBounds_toArray, List.set_cons_zero, List.set_cons_succ]
        refine wpAnyN_take (i := 8) (v := ?_) rfl (by kernel_rfl) (by kernel_rfl) (by kernel_rfl) (by kernel_rfl) (fun _ _ _ h => h) (Or.inl ⟨by rfl, ?_⟩) (by assumption) ?_
        rotate_left
        · intro w hSw; ((try dsimp only at hSw); go_simp; (try with_reducible rfl))
        simp only [Act.put, List.setIfInBounds_toArray, List.set_cons_zero, List.set_cons_succ]
        refine wpAnyN_take (i := 9) (v := ?_) rfl (by kernel_rfl) (by kernel_rfl) (by kernel_rfl) (by kernel_rfl) (fun _ _ _ h => h) (Or.inl ⟨by rfl, ?_⟩) (by assumption) ?_
        rotate_left
        · intro w hSw; ((try dsimp only at hSw); go_simp; (try with_reducible rfl))
        simp only [Act.put, List.setIfInBounds_toArray, List.set_cons_zero, List.set_cons_succ]
        refine wpAnyN_take (i := 10) (v := ?_) rfl (by kernel_rfl) (by kernel_rfl) (by kernel_rfl) (by kernel_rfl) (fun _ _ _ h => h) (Or.inl ⟨by rfl, ?_⟩) (by assumption) ?_
        rotate_left
        · intro w hSw; ((try dsimp only at hSw); go_simp; (try with_reducible rfl))
        simp only [Act.put, List.setIfInBounds_toArray, List.set_cons_zero, List.set_cons_succ]
        refine wpAnyN_take (i := 11) (v := ?_) rfl (by kernel_rfl) (by kernel_rfl) (by kernel_rfl) (by kernel_rfl) (fun _ _ _ h => h) (Or.inl ⟨by rfl, ?_⟩) (by assumption) ?_
        rotate_left
        · intro w hSw; ((try dsimp only at hSw); go_simp; (try with_reducible rfl))
        simp only [Act.put, List.setIfInBounds_toArray, List.set_cons_zero, List.set_cons_succ]
        refine wpAnyN_take (i := 12) (v := ?_) rfl (by kernel_rfl) (by kernel_rfl) (by kernel_rfl) (by kernel_rfl) (fun _ _ _ h => h) (Or.inl ⟨by rfl, ?_⟩) (by assumption) ?_
        rotate_left
        · intro w hSw; ((try dsimp only at hSw); go_simp; (try with_reducible rfl))
        simp only [Act.put, List.setIfInBounds_toArray, List.set_cons_zero, List.set_cons_succ]
        refine wpAnyN_take (i := 13) (v := ?_) rfl (by kernel_rfl) (by kernel_rfl) (by kernel_rfl) (by kernel_rfl) (fun _ _ _ h => h) (Or.inl ⟨by rfl, ?_⟩) (by assumption) ?_
        rotate_left
        · intro w hSw; ((try dsimp only at hSw); go_simp; (try with_reducible rfl))
        simp only [Act.put, List.setIfInBounds_toArray, List.set_cons_zero, List.set_cons_succ]
        refine wpAnyN_take (i := 14) (v := str (xl.take 0)) rfl (by kernel_rfl) (by kernel_rfl) (by kernel_rfl) (by kernel_rfl) (fun _ _ _ h => h) (yields_run rfl (fun w hSw => ?_)) (by assumption) ?_
        · refine exec_slice 9 (.tmp 49) none (some (.tmp 50)) none rfl ?_
          exact (run_str_take w xl 0 (by have := hx2.out; omega))
        simp only [Act.put, List.setIfInBounds_toArray, List.set_cons_zero, List.set_cons_succ]
        refine wpAnyN_take (i := 15) (v := ?_) rfl (by kernel_rfl) (by kernel_rfl) (by kernel_rfl) (by kernel_rfl) (fun _ _ _ h => h) (Or.inl ⟨by rfl, ?_⟩) (by assumption) ?_
        rotate_left
        · intro w hSw; ((try dsimp only at hSw); go_simp; (try with_reducible rfl))
        simp only [Act.put, List.setIfInBounds_toArray, List.set_cons_zero, List.set_cons_succ]
        refine wpAnyN_take (i := 16) (v := ?_) rfl (by kernel_rfl) (by kernel_rfl) (by kernel_rfl) (by kernel_rfl) (fun _ _ _ h => h) (Or.inl ⟨by rfl, ?_⟩) (by assumption) ?_
        rotate_left
        · intro w hSw; ((try dsimp only at hSw); go_simp; (try with_reducible rfl))
        simp only [Act.put, List.setIfInBounds_toArray, List.set_cons_zero, List.set_cons_succ]
        refine wpAnyN_take (i := 17) (v := ?_) rfl (by kernel_rfl) (by kernel_rfl) (by kernel_rfl) (by kernel_rfl) (fun _ _ _ h => h) (Or.inl ⟨by rfl, ?_⟩) (by assumption) ?_
        rotate_left
        · intro w hSw; ((try dsimp only at hSw); go_simp; (try with_reducible rfl))
        simp only [Act.put, List.setIfInBounds_toArray, List.set_cons_zero, List.set_cons_succ]
        refine wpAnyN_take (i := 18) (v := ?_) rfl (by kernel_rfl) (by kernel_rfl) (by kernel_rfl) (by kernel_rfl) (fun _ _ _ h => h) (Or.inl ⟨by rfl, ?_⟩) (by assumption) ?_
        rotate_left
        · intro w hSw; ((try dsimp only at hSw); go_simp; (try with_reducible rfl))
        simp only [Act.put, List.setIfInBounds_toArray, List.set_cons_zero, List.set_cons_succ]
        refine wpAnyN_take (i := 19) (v := ?_) rfl (by kernel_rfl) (by kernel_rfl) (by kernel_rfl) (by kernel_rfl) (fun _ _ _ h => h) (Or.inl ⟨by rfl, ?_⟩) (by assumption) ?_
        rotate_left
        · intro w hSw; ((try dsimp only at hSw); go_simp; (try with_reducible rfl))
        simp only [Act.put, List.setIfInBounds_toArray, List.set_cons_zero, List.set_cons_succ]
        refine wpAnyN_take (i := 20) (v := ?_) rfl (by kernel_rfl) (by kernel_rfl) (by kernel_rfl) (by kernel_rfl) (fun _ _ _ h => h) (Or.inl ⟨by rfl, ?_⟩) (by assumption) ?_
        rotate_left
        · intro w hSw; ((try dsimp only at hSw); go_simp; (try with_reducible rfl))
        simp only [Act.put, List.setIfInBounds_toArray, List.set_cons_zero, List.set_cons_succ]
        refine wpAnyN_take (i := 21) (v := ?_) rfl (by kernel_rfl) (by kernel_rfl) (by kernel_rfl) (by kernel_rfl) (fun _ _ _ h => h) (Or.inl ⟨by rfl, ?_⟩) (by assumption) ?_
        rotate_left
        · intro w hSw; ((try dsimp only at hSw); go_simp; (try with_reducible rfl))
        simp only [Act.put, List.setIfInBounds_toArray, List.set_cons_zero, List.set_cons_succ]
        refine wpAnyN_take (i := 22) (v := ?_) rfl (by kernel_rfl) (by kernel_rfl) (by kernel_rfl) (by kernel_rfl) (fun _ _ _ h => h) (Or.inl ⟨by rfl, ?_⟩) (by assumption) ?_
        rotate_left
        · intro w hSw; ((try dsimp only at hSw); go_simp; (try with_reducible rfl))
        simp only [Act.put, List.setIfInBounds_toArray, List.set_cons_zero, List.set_cons_succ]
        refine wpAnyN_take (i := 23) (v := str (page.drop 0)) rfl (by kernel_rfl) (by kernel_rfl) (by kernel_rfl) (by kernel_rfl) (fun _ _ _ h => h) (yields_run rfl (fun w hSw => ?_)) (by assumption) ?_
        · refine exec_slice 9 (.tmp 58) (some (.tmp 59)) none none rfl ?_
          exact (run_str_drop w page 0 (by have := holdH.out; omega))
        simp only [Act.put, List.setIfInBounds_toArray, List.set_cons_zero, List.set_cons_succ]
        refine wpAnyN_take (i := 24) (v := str (xl.take 0 ++ page.drop 0)) rfl (by kernel_rfl) (by kernel_rfl) (by kernel_rfl) (by kernel_rfl) (fun _ _ _ h => h) (yields_run rfl (fun w hSw => ?_)) (by assumption) ?_
        · refine exec_add 9 9 (.tmp 51) (.tmp 60) rfl ?_
          exact (run_str_add w (xl.take 0) (page.drop 0) (by have := hx2.out; have := holdH.out; rw [List.length_take, List.length_drop]; omega))
        simp only [Act.put, List.setIfInBounds_toArray, List.set_cons_zero, List.set_cons_succ]
        have cpgd : wr.drew.cell? ⟨pg, xa, none⟩ = some _ := cpg
        have fpgd : wr.drew.frozen? ⟨pg, xa, none⟩ = false := fpg
        refine wpAnyN_one (i := 25) rfl (by kernel_rfl) ?_
        go_wp2_with fail
        refine ⟨fun _ => hHeld, ?_⟩
        refine wpAnyN_one (i := 26) rfl (by kernel_rfl) ?_
        have hsetH' : Hid (RefMid w o E p pg pc (.slice (some ⟨g, 0, none⟩) d.row.length cap) d (DiskM.donePages (DiskM.fate l) d.pages (d.row.take (k + 1))) (wr.drew.setCell ⟨pg, xa, none⟩ (str (xl.take 0 ++ page.drop 0))) o) := hsetH
        clear hsetH
        generalize xl.take 0 ++ page.drop 0 = nw at *
        unfold str at cpgd hsetH' ⊢
        go_wp2_with fail
        refine ⟨fun h => by simp at h, ?_⟩
        refine wpAnyN_done (by kernel_rfl) ?_ _
        go_wp2_with fail
        go_roundw
        case rel => exact ⟨k + 1, hlt, by go_num, hsetH'.out⟩
        case measure => simp [intOf]; omega
    · have hk' : k = d.row.length := by omega
      subst hk'
      rw [List.take_length] at hm
      have hfin := hm.done hwfH.out (hPWH.out d.row hw4H.out)
      have hst2 : Step (Only E) w o (((wr.setCell ⟨p, 1, none⟩ (.slice none 0 0)).setCell ⟨p, 3, none⟩ (.bool false)).setCell ⟨p, 2, none⟩ (.int .i64 (-1))) o := (hfin.2.trans (hfin.1.setStep 3 _)).trans ((hfin.1.setDead false).setStep 2 _)
      have hat2 := (hfin.1.setDead false).setLeft (-1) (by omega)
      obtain ⟨_, _, ⟨_, _, d2, d3⟩, ⟨_, g2, g3⟩, -⟩ := hfin.1.open
      obtain ⟨_, _, ⟨_, _, d4, _⟩, ⟨_, g4, _⟩, -⟩ := (hfin.1.setDead false).open
      subst hrv
      have hst2H := hidden hst2
      have hat2H := hidden hat2
      clear hfin hm hst2 hat2
      go_wp2_with fail
      go_end0
      exact ⟨_, o, rfl, hst2H.out, rfl, hat2H.out⟩
end Go.Proofs.YtfgggkheadfiaaaR
