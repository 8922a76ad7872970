/- Contracts of the disk: done (the row is done, so many bytes of each write), Sync, Restart. -/
import Derived.Test.YtfgggkheadfiaaaRDisk3
namespace Go.Proofs.YtfgggkheadfiaaaR
open Go Go.RowKit
attribute [local go_sem ↓] Go.wp_at_zero Go.wp_at_succ

theorem s5 : (Try.prog.info? 5).map (·.size) = some 1 := by kernel_rfl

namespace DiskM
theorem donePages_snoc (f : Nat → Nat) (pages : List (List UInt8)) (row : List (Nat × List UInt8)) (x : Nat × List UInt8) : donePages f pages (row ++ [x]) = doneOne f (donePages f pages row) (x, row.length) := by
  simp [donePages, List.zipIdx_append, List.foldl_append]
theorem donePages_wf (f : Nat → Nat) (hf : ∀ i, f i ≤ 512) (pages : List (List UInt8)) (h : ∀ p ∈ pages, p.length = 512) (row : List (Nat × List UInt8)) (hr : ∀ x ∈ row, x.1 < pages.length ∧ x.2.length = 512) :
    (donePages f pages row).length = pages.length ∧ ∀ p ∈ donePages f pages row, p.length = 512 := by
  suffices hs : ∀ (row : List (Nat × List UInt8)) (k : Nat) (q : List (List UInt8)), q.length = pages.length → (∀ p ∈ q, p.length = 512) → (∀ x ∈ row, x.1 < pages.length ∧ x.2.length = 512) →
      ((row.zipIdx k).foldl (doneOne f) q).length = pages.length ∧ ∀ p ∈ (row.zipIdx k).foldl (doneOne f) q, p.length = 512 from hs row 0 pages rfl h hr
  intro row
  induction row with
  | nil => intro k q hq hp _; exact ⟨hq, hp⟩
  | cons x r ih =>
    intro k q hq hp hx
    have h1 := hx x (by simp)
    have h2 := doneOne_wf f hf hp (x, k) (by rw [hq]; exact h1.1) h1.2
    rw [List.zipIdx_cons, List.foldl_cons]
    exact ih (k + 1) _ (h2.1.trans hq) h2.2 (fun y hy => hx y (by simp [hy]))
end DiskM

set_option maxRecDepth 100000 in
set_option maxHeartbeats 3200000 in
theorem done_any {w : World} {o : Own} {D p : Nat} {d : DiskM} (h : DiskAt w o D p d) (hrow : d.row.length ≤ 1000000) (fid : Nat) (caps : Array Value) (f : Nat → Nat) (hf : ∀ i, f i ≤ 512)
    (hcall : ∀ (args : Array Value) (x : World), (callFunc fid args).run Try.prog x = .ok (.enter fid args) x)
    (hsays : ∀ (i : Nat) (x : World), i < d.row.length → (∀ k, k < w.heap.size → (o k).1 ≠ D → x.heap[k]? = w.heap[k]?) → Calls Try.prog fid (#[.int .i64 (i : Int)] ++ caps) x fun e x' => e = .returned (.int .i64 (f i : Int)) ∧ x = x') :
    Calls Try.prog 69 #[.pointer (some ⟨p, 0, none⟩), .func (.func fid) #[] caps] w (Ret (Only D) w o fun v w' o' => v = .tuple #[] ∧ DiskAt w' o' D p (d.done f)) := by
  have hwf := h.wf
  obtain ⟨hw1, hw2, hw3, hw4, hw5, hw6⟩ := h.wf
  have hpl : p < w.heap.size := h.lt
  obtain ⟨bl, rv, hp, hbl, hown, op, ol, orr, -⟩ := h
  have c0 := cell_of_block hp 0
  have c1 := cell_of_block hp 1
  have f1 := free_of_block hp 1
  simp only [List.getElem?_cons_zero, List.getElem?_cons_succ] at c0 c1
  have hbll := lt_of_block hbl
  obtain ⟨ra, rcap, hrv⟩ := row_form hown
  subst hrv
  have hpbl : p ≠ bl := by rintro rfl; rw [op] at ol; simp at ol
  have hPW := DiskM.donePages_wf f hf d.pages hw3
  have hsaysH := hidden hsays
  have hPWH := hidden hPW
  have hw3H := hidden hw3
  have opH := hidden op
  have olH := hidden ol
  clear hsays hPW hw3 op ol
  go_enter Try.func69, Try.ntmps69
  go_wp2_with fail
  go_loopw [11] (fun i wr => ∃ k : Nat, k ≤ d.row.length ∧ i = .int .i64 k ∧ wr.heap[bl]? = some (.cells (bvs (DiskM.donePages f d.pages (d.row.take k)).flatten).toArray 127 (0, 0)) ∧ (∀ j, j < w.heap.size → j ≠ bl → wr.heap[j]? = w.heap[j]?) ∧ Step (Only D) w o wr o)
    (fun i _ => d.row.length - (intOf i).toNat)
  case atStart => exact ⟨0, Nat.zero_le _, rfl, hbl, fun _ _ _ => rfl, Step.refl _ _ _⟩
  case round =>
    obtain ⟨k, hk, rfl, hB, hsame, hstep⟩ := hrel
    have hplr : p < wr.heap.size := Nat.lt_of_lt_of_le hpl hstep.size
    have hpr : wr.heap[p]? = w.heap[p]? := hsame p hpl hpbl
    have c0r : wr.cell? ⟨p, 0, none⟩ = some (.slice (some ⟨bl, 0, none⟩) d.pages.length d.pages.length) := by rw [World.cell?_of_block (w := w) (a := ⟨p, 0, none⟩) hpr]; exact c0
    have f1r : wr.frozen? ⟨p, 1, none⟩ = false := by rw [World.frozen?_of_block (w := w) (a := ⟨p, 1, none⟩) hpr]; exact f1
    have c1r : wr.cell? ⟨p, 1, none⟩ = some (.slice ra d.row.length rcap) := by rw [World.cell?_of_block (w := w) (a := ⟨p, 1, none⟩) hpr]; exact c1
    by_cases hlt : k < d.row.length
    · obtain ⟨g, hg, cur, hcur, htk⟩ : ∃ g, ra = some ⟨g, 0, none⟩ ∧ ∃ cur : Array Value, w.heap[g]? = some (.cells cur 129 (0, 0)) ∧ cur.toList.take (d.row.length * 513) = rowCells d.row := by
        rcases hown.2 with ⟨_, h0⟩ | ⟨g, cap, cur, hv, _, hgg, _, _, _, htake⟩
        · omega
        · simp only [Value.slice.injEq] at hv
          exact ⟨g, hv.1, cur, hgg, htake⟩
      subst hg
      have hx := hw4 d.row[k] (List.getElem_mem hlt)
      have hgz := lt_of_block hcur
      have hgbl : g ≠ bl := by rintro rfl; have := orr g rfl; rw [olH.out] at this; simp at this
      have hent : wr.rangeAt g (k * 513) (Value.int .i64 (d.row[k].1 : Int) :: bvs d.row[k].2) := by
        have e1 : wr.heap[g]? = some (.cells cur.toList.toArray 129 (0, 0)) := by rw [hsame g hgz hgbl]; simpa using hcur
        have := range_of_block e1 (k * 513) 513
        have e2 : (cur.toList.drop (k * 513)).take 513 = ((rowCells d.row).drop (k * 513)).take 513 := by
          rw [← htk, List.drop_take, List.take_take]
          congr 1; omega
        rwa [e2, get_rowCells _ _ hlt (fun x hx => (hw4 x hx).2)] at this
      have hld2 := load129 hx.2 hent
      have hPk := hPWH.out (d.row.take k) (fun x hx => hw4 x (List.mem_of_mem_take hx))
      have hsn : DiskM.donePages f d.pages (d.row.take (k + 1)) = DiskM.doneOne f (DiskM.donePages f d.pages (d.row.take k)) (d.row[k], k) := by
        rw [List.take_succ_eq_append_getElem hlt, DiskM.donePages_snoc, List.length_take, Nat.min_eq_left (by omega)]
      have hsnH := hidden hsn
      have hPkH := hidden hPk
      have hXH := hidden hx
      have hs1 : Step (Only D) w o (wr.alloc (.cells (Value.int .i64 (d.row[k].1 : Int) :: bvs d.row[k].2).toArray 129)) o := hstep.alloc' _
      have hx1 : d.row[k].1 < d.pages.length := hx.1
      clear hsn hx hent htk hcur hPk
      generalize hrowk : d.row[k] = x at *
      obtain ⟨xa, xl⟩ := x
      clear hrowk
      simp only at hXH hld2 hsnH hs1 hx1
      generalize hpk : DiskM.donePages f d.pages (d.row.take k) = pk at *
      have hpkH := hidden hpk
      clear hpk
      have hxlH : Hid (xl.length = 512) := hXH.out.2
      have hxaI : (xa : Int) < (d.pages.length : Int) := by omega
      have hnew : (wr.alloc (.cells (Value.int .i64 (xa : Int) :: bvs xl).toArray 129)).heap[wr.heap.size]? = some (.cells (Value.int .i64 (xa : Int) :: bvs xl).toArray 129 (0, 0)) := heap_alloc_new wr _
      have hblr : bl < wr.heap.size := lt_of_block hB
      have hB2 : (wr.alloc (.cells (Value.int .i64 (xa : Int) :: bvs xl).toArray 129)).heap[bl]? = some (.cells (bvs pk.flatten).toArray 127 (0, 0)) := by rw [Below.heap_alloc _ _ _ hblr]; exact hB
      have hc0x : (wr.alloc (.cells (Value.int .i64 (xa : Int) :: bvs xl).toArray 129)).cell? ⟨p, 0, none⟩ = some (.slice (some ⟨bl, 0, none⟩) d.pages.length d.pages.length) := by rw [World.cell?_alloc_lt _ _ _ hplr]; exact c0r
      have hsz : (wr.alloc (.cells (Value.int .i64 (xa : Int) :: bvs xl).toArray 129)).heap.size = wr.heap.size + 1 := by simp
      go_wp2_with (first
        | (refine wpList_run rfl (exec_load 129 (.tmp 14) rfl g (k * 513) rfl hld2) ?_; simp only [Act.put, List.setIfInBounds_toArray, List.set_cons_zero, List.set_cons_succ])
        | (refine wpList_run rfl (exec_alloc 129 rfl (run_alloc_zero wr 129 zero513.toArray zc129)) ?_; simp only [Act.put, List.setIfInBounds_toArray, List.set_cons_zero, List.set_cons_succ])
        | (refine wpList_skipped rfl (exec_store 129 (.tmp 5) (.tmp 15) rfl wr.heap.size 0 (Value.int .i64 (xa : Int) :: bvs xl) rfl rfl (there_of_block (heap_alloc_new wr _) 0 _ (by rw [List.length_cons, length_bvs, hxlH.out, length_zero513]; omega)) (by rw [List.length_cons, length_bvs, hxlH.out]; exact s129) (one_cons rfl (one_bvs _))) ?_
           rw [setCells_alloc_whole _ _ _ _ (by rw [List.length_cons, length_bvs, hxlH.out, List.size_toArray, length_zero513])]))
      generalize hW : wr.alloc (.cells (Value.int .i64 (xa : Int) :: bvs xl).toArray 129) = W at *
      have hxa0 : W.cell? ⟨wr.heap.size, 0, none⟩ = some (.int .i64 (xa : Int)) := by rw [cell_of_block hnew 0]; rfl
      refine wp_region_need (fun w' => w'.cell? ⟨p, 0, none⟩ = some (.slice (some ⟨bl, 0, none⟩) d.pages.length d.pages.length) ∧ w'.cell? ⟨wr.heap.size, 0, none⟩ = some (.int .i64 (xa : Int))) (fun _ => true) (by kernel_rfl) ⟨hc0x, hxa0⟩ (fun hHeld => ?_)
      refine wpAnyN_take (i := 0) (v := ?_) rfl (by kernel_rfl) (by kernel_rfl) (by kernel_rfl) (by kernel_rfl) (fun _ _ _ h => h) (Or.inl ⟨by rfl, ?_⟩) (by assumption) ?_
      rotate_left
      · intro w hSw; ((try dsimp only at hSw); go_simp; (try with_reducible rfl))
      simp only [Act.put, List.setIfInBounds_toArray, List.set_cons_zero, List.set_cons_succ]
      refine wpAnyN_take (i := 1) (v := ?_) rfl (by kernel_rfl) (by kernel_rfl) (by kernel_rfl) (by kernel_rfl) (fun _ _ _ h => h) (Or.inl ⟨by rfl, ?_⟩) (by assumption) ?_
      rotate_left
      · intro w hSw; ((try dsimp only at hSw); go_simp; (try with_reducible rfl))
      simp only [Act.put, List.setIfInBounds_toArray, List.set_cons_zero, List.set_cons_succ]
      refine wpAnyN_take (i := 2) (v := ?_) rfl (by kernel_rfl) (by kernel_rfl) (by kernel_rfl) (by kernel_rfl) (fun _ _ _ h => h) (Or.inl ⟨by rfl, ?_⟩) (by assumption) ?_
      rotate_left
      · intro w hSw; ((try dsimp only at hSw); go_simp; (try with_reducible rfl))
      simp only [Act.put, List.setIfInBounds_toArray, List.set_cons_zero, List.set_cons_succ]
      refine wpAnyN_take (i := 3) (v := ?_) rfl (by kernel_rfl) (by kernel_rfl) (by kernel_rfl) (by kernel_rfl) (fun _ _ _ h => h) (Or.inl ⟨by rfl, ?_⟩) (by assumption) ?_
      rotate_left
      · intro w hSw; ((try dsimp only at hSw); go_simp; (try with_reducible rfl))
      simp only [Act.put, List.setIfInBounds_toArray, List.set_cons_zero, List.set_cons_succ]
      refine wpAnyN_take (i := 4) (v := ?_) rfl (by kernel_rfl) (by kernel_rfl) (by kernel_rfl) (by kernel_rfl) (fun _ _ _ h => h) (Or.inl ⟨by rfl, ?_⟩) (by assumption) ?_
      rotate_left
      · intro w hSw; ((try dsimp only at hSw); go_simp; (try with_reducible rfl))
      simp only [Act.put, List.setIfInBounds_toArray, List.set_cons_zero, List.set_cons_succ]
      refine wpAnyN_take (i := 5) (v := ?_) rfl (by kernel_rfl) (by kernel_rfl) (by kernel_rfl) (by kernel_rfl) (fun _ _ _ h => h) (Or.inl ⟨by rfl, ?_⟩) (by assumption) ?_
      rotate_left
      · intro w hSw; ((try dsimp only at hSw); go_simp; (try with_reducible rfl))
      simp only [Act.put, List.setIfInBounds_toArray, List.set_cons_zero, List.set_cons_succ]
      refine wpAnyN_take (i := 6) (v := ?_) rfl (by kernel_rfl) (by kernel_rfl) (by kernel_rfl) (by kernel_rfl) (fun _ _ _ h => h) (Or.inl ⟨by rfl, ?_⟩) (by assumption) ?_
      rotate_left
      · intro w hSw; ((try dsimp only at hSw); go_simp; (try with_reducible rfl))
      simp only [Act.put, List.setIfInBounds_toArray, List.set_cons_zero, List.set_cons_succ]
      refine wpAnyN_take (i := 7) (v := ?_) rfl (by kernel_rfl) (by kernel_rfl) (by kernel_rfl) (by kernel_rfl) (fun _ _ _ h => h) (Or.inl ⟨by rfl, ?_⟩) (by assumption) ?_
      rotate_left
      · intro w hSw; ((try dsimp only at hSw); go_simp; (try with_reducible rfl))
      simp only [Act.put, List.setIfInBounds_toArray, List.set_cons_zero, List.set_cons_succ]
      refine wpAnyN_take (i := 8) (v := ?_) rfl (by kernel_rfl) (by kernel_rfl) (by kernel_rfl) (by kernel_rfl) (fun _ _ _ h => h) (Or.inl ⟨by rfl, ?_⟩) (by assumption) ?_
      rotate_left
      · intro w hSw; ((try dsimp only at hSw); go_simp; (try with_reducible rfl))
      simp only [Act.put, List.setIfInBounds_toArray, List.set_cons_zero, List.set_cons_succ]
      refine wpAnyN_take (i := 11) (v := ?_) rfl (by kernel_rfl) (by kernel_rfl) (by kernel_rfl) (by kernel_rfl) (fun _ _ _ h => h) (Or.inl ⟨by rfl, ?_⟩) (by assumption) ?_
      rotate_left
      · intro w hSw; ((try dsimp only at hSw); go_simp; (try with_reducible rfl))
      simp only [Act.put, List.setIfInBounds_toArray, List.set_cons_zero, List.set_cons_succ]
      refine wpAnyN_take (i := 12) (v := ?_) rfl (by kernel_rfl) (by kernel_rfl) (by kernel_rfl) (by kernel_rfl) (fun _ _ _ h => h) (Or.inl ⟨by rfl, ?_⟩) (by assumption) ?_
      rotate_left
      · intro w hSw; ((try dsimp only at hSw); go_simp; (try with_reducible rfl))
      simp only [Act.put, List.setIfInBounds_toArray, List.set_cons_zero, List.set_cons_succ]
      have hfk : (0 : Int) ≤ (f k : Int) ∧ (f k : Int) ≤ 512 := ⟨by omega, by have := hf k; omega⟩
      have hfk1 := hfk.1
      have hfk2 := hfk.2
      have hk6 : k ≤ 1000000 := by omega
      have hWk : ∀ j, j < w.heap.size → j ≠ bl → W.drew.heap[j]? = w.heap[j]? := fun j hj hjb => by
        show W.heap[j]? = _
        rw [← hW, Below.heap_alloc _ _ _ (Nat.lt_of_lt_of_le hj hstep.size)]; exact hsame j hj hjb
      have hcallk := hsaysH.out k W.drew hlt (fun j hj hjo => hWk j hj (by rintro rfl; rw [olH.out] at hjo; exact hjo rfl))
      have hcallH := hidden hcallk
      clear hcallk hfk
      refine wpAnyN_one (i := 9) rfl (by kernel_rfl) ?_
      go_wp2_with ((with_reducible refine hcallH.out.mono ?_); rintro e x' ⟨rfl, rfl⟩)
      refine ⟨fun _ => hHeld, ?_⟩
      refine wpAnyN_one (i := 10) rfl (by kernel_rfl) ?_
      go_wp2_with fail
      refine ⟨fun _ => hHeld, ?_⟩
      have hcl : (bvs (xl.take (f k))).length = f k := by rw [length_bvs, List.length_take, hxlH.out, Nat.min_eq_left (hf k)]
      have hnewW : W.drew.heap[wr.heap.size]? = some (.cells (Value.int .i64 (xa : Int) :: bvs xl).toArray 129 (0, 0)) := hnew
      have hsrc : W.drew.rangeAt wr.heap.size 1 (bvs (xl.take (f k))) := by
        have := range_of_block hnewW 1 (f k)
        rwa [List.drop_one, List.tail_cons, bvs_take] at this
      have hpl2 : (bvs pk.flatten).length = d.pages.length * 512 := by rw [length_bvs, length_pages _ hPkH.out.2, hPkH.out.1]
      have hfit : xa * 512 + (bvs (xl.take (f k))).length ≤ (bvs pk.flatten).length := by rw [hcl, hpl2]; have := hf k; omega
      have hB3 : W.drew.heap[bl]? = some (.cells (bvs pk.flatten).toArray 127 (0, 0)) := hB2
      have hth := there_of_block hB3 (xa * 512) _ hfit
      have hcp := run_copy_cells (P := Try.prog) W.drew 28 28 3 5 bl (xa * 512) (f k) 512 ⟨wr.heap.size, 1, none⟩ 512 512 (bvs (xl.take (f k))) Try.underlying28 s5 (by rw [hcl]; exact (Nat.min_eq_right (hf k)).symm)
        (fun j v hv => by rw [Addr.add_mid]; exact hsrc j v hv) (fun j hj => (hth j hj).1) (fun j hj => (hth j hj).2) (one_bvs _)
      have hcpl : (bvs (xl.take (f k))).length ≤ 512 := by rw [hcl]; exact hf k
      have hcells := heap_setCells_same bl 127 (bvs (xl.take (f k))) (xa * 512) W.drew _ hB3 hfit
      refine wpAnyN_one (i := 13) rfl (by kernel_rfl) ?_
      refine wpList_run rfl (exec_copy (.tmp 26) (.tmp 28) 28 28 rfl hcp) ?_
      refine wpList_nil ?_
      simp only [Act.put, List.setIfInBounds_toArray, List.set_cons_zero, List.set_cons_succ]
      have hplW : p ≠ wr.heap.size := by omega
      have hnebl : wr.heap.size ≠ bl := by omega
      refine ⟨fun _ => ⟨?_, ?_⟩, ?_⟩
      · rw [World.cell?_of_block (w := W.drew) (a := ⟨p, 0, none⟩) (heap_setCells_other bl _ _ _ p hpbl)]; exact hc0x
      · rw [World.cell?_of_block (w := W.drew) (a := ⟨wr.heap.size, 0, none⟩) (heap_setCells_other bl _ _ _ _ hnebl)]; exact hxa0
      refine wpAnyN_done (by kernel_rfl) ?_ _
      clear hcp hth hsrc hcells
      generalize hW4 : W.drew.setCells bl (xa * 512) (bvs (xl.take (f k))) = W4 at *
      go_wp2_with fail
      go_roundw
      case rel =>
        refine ⟨k + 1, hlt, by go_num, ?_, ?_, ?_⟩
        · rw [← hW4, heap_setCells_same bl 127 (bvs (xl.take (f k))) (xa * 512) W.drew _ hB3 hfit, hsnH.out]
          rw [hcl, bvs_take, bvs_drop, ← bvs_append, ← bvs_append]
          have := set_pages pk xa (xl.take (f k)) (by rw [hPkH.out.1]; exact hx1) hPkH.out.2 (by rw [List.length_take, hxlH.out]; have := hf k; omega)
          have hl2 : (xl.take (f k)).length = f k := by rw [← length_bvs]; exact hcl
          rw [hl2] at this
          rw [this]; rfl
        · intro j hj hjb
          rw [← hW4, heap_setCells_other bl _ _ _ j hjb]
          show W.heap[j]? = _
          rw [← hW, Below.heap_alloc _ _ _ (Nat.lt_of_lt_of_le hj hstep.size)]; exact hsame j hj hjb
        · rw [← hW4]
          exact (hs1.drew).setCells bl _ _ (.inl (by rw [olH.out]; rfl))
      case measure => simp [intOf]; omega
    · have hke : k = d.row.length := by omega
      subst hke
      have hPk := hPWH.out d.row hw4
      have hPkH := hidden hPk
      clear hPk
      have hfin : Step (Only D) w o (wr.setCell ⟨p, 1, none⟩ (.slice none 0 0)) o := hstep.setCell _ (.inl (by show Only D (o p).1; rw [opH.out]; rfl))
      have hat : DiskAt (wr.setCell ⟨p, 1, none⟩ (.slice none 0 0)) o D p (d.done f) := by
        refine ⟨bl, .slice none 0 0, ?_, ?_, World.ownsRow_nil _ _ _ _, opH.out, olH.out, ?_, ?_⟩
        · have := heap_setCell_at (i := 1) (.slice none 0 0) (hpr.trans hp)
          rw [this]; simp [DiskM.done, hPkH.out.1]
        · rw [Below.heap_setCell _ _ _ _ (by exact fun h => hpbl h.symm), hB, List.take_length]; rfl
        · intro j hj; simp [Value.ownBlock] at hj
        · exact ⟨by simp only [DiskM.done, hPkH.out.1]; exact hw1, by simp only [DiskM.done, hPkH.out.1]; exact hw2, hPkH.out.2, by simp [DiskM.done], hw5, hw6⟩
      go_wp2_with fail
      go_end0
      exact ⟨_, o, rfl, hfin, rfl, hat⟩
end Go.Proofs.YtfgggkheadfiaaaR
