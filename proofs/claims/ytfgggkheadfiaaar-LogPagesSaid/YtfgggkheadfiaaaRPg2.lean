/- Contracts of the disk: done (the row is done, so many bytes of each write), Sync, Restart. -/
import Derived.ProofKit
import Derived.OpenShut
import Derived.Deep.Slices
import Derived.Test.YtfgggkheadfiaaaRPg1
namespace Go.Proofs.YtfgggkheadfiaaaR
open Go Go.RowKit
attribute [local go_sem ↓] Go.wp_at_zero Go.wp_at_succ

theorem s5 : (Try.prog.info? 5).map (·.size) = some 1 := by kernel_rfl

namespace DiskM
theorem donePages_snoc (f : Nat → Nat) (pages : List (List UInt8)) (row : List (Nat × List UInt8)) (x : Nat × List UInt8) : donePages f pages (row ++ [x]) = doneOne f (donePages f pages row) (x, row.length) := by
  simp [donePages, List.zipIdx_append, List.foldl_append]
theorem donePages_wf (f : Nat → Nat) (hf : ∀ i, f i ≤ 512) (pages : List (List UInt8)) (h : ∀ p ∈ pages, p.length = 512) (row : List (Nat × List UInt8)) (hr : ∀ x ∈ row, x.1 < pages.length ∧ x.2.length = 512) :
    (donePages f pages row).length = pages.length ∧ ∀ p ∈ donePages f pages row, p.length = 512 := by
  suffices hs : ∀ (row : List (Nat × List UInt8)) (k : Nat) (q : List (List UInt8)), q.length = pages.length → (∀ p ∈ q, p.length = 512) → (∀ x ∈ row, x.1 < pages.length ∧ x.2.length = 512) →
      ((row.zipIdx k).foldl (doneOne f) q).length = pages.length ∧ ∀ p ∈ (row.zipIdx k).foldl (doneOne f) q, p.length = 512 from hs row 0 pages rfl h hr
  intro row
  induction row with
  | nil => intro k q hq hp _; exact ⟨hq, hp⟩
  | cons x r ih =>
    intro k q hq hp hx
    have h1 := hx x (by simp)
    have h2 := doneOne_wf f hf hp (x, k) (by rw [hq]; exact h1.1) h1.2
    rw [List.zipIdx_cons, List.foldl_cons]
    exact ih (k + 1) _ (h2.1.trans hq) h2.2 (fun y hy => hx y (by simp [hy]))
end DiskM

set_option maxRecDepth 100000 in
set_option maxHeartbeats 3200000 in
theorem done_any {w : World} {o : Own} {D p : Nat} {d : DiskM} (h : DiskAt w o D p d) (hrow : d.row.length ≤ 1000000) (fid : Nat) (caps : Array Value) (f : Nat → Nat) (hf : ∀ i, f i ≤ 512)
    (hcall : ∀ (args : Array Value) (x : World), (callFunc fid args).run Try.prog x = .ok (.enter fid args) x)
    (hsays : ∀ (i : Nat) (x : World), i < d.row.length → (∀ k, k < w.heap.size → (o k).1 ≠ D → x.heap[k]? = w.heap[k]?) → Calls Try.prog fid (#[.int .i64 (i : Int)] ++ caps) x fun e x' => e = .returned (.int .i64 (f i : Int)) ∧ x = x') :
    Calls Try.prog 69 #[.pointer (some ⟨p, 0, none⟩), .func (.func fid) #[] caps] w (Ret (Only D) w o fun v w' o' => v = .tuple #[] ∧ DiskAt w' o' D p (d.done f)) := by
  have hwf := h.wf
  obtain ⟨hw1, hw2, hw3, hw4, hw5, hw6⟩ := h.wf
  have hpl : p < w.heap.size := h.lt
  obtain ⟨bl, rv, hp, hbl, hown, op, ol, orr, -⟩ := h
  have c0 := cell_of_block hp 0
  have c1 := cell_of_block hp 1
  have f1 := free_of_block hp 1
  simp only [List.getElem?_cons_zero, List.getElem?_cons_succ] at c0 c1
  have hbll := lt_of_block hbl
  obtain ⟨ra, rcap, hrv⟩ := row_form hown
  subst hrv
  have hpbl : p ≠ bl := by rintro rfl; rw [op] at ol; simp at ol
  have hPW := DiskM.donePages_wf f hf d.pages hw3
  have hsaysH := hidden hsays
  have hPWH := hidden hPW
  have hw3H := hidden hw3
  have opH := hidden op
  have olH := hidden ol
  clear hsays hPW hw3 op ol
  go_enter Try.func69, Try.ntmps69
  go_wp2_with fail
  go_loopw [11] (fun i wr => ∃ k : Nat, k ≤ d.row.length ∧ i = .int .i64 k ∧ wr.heap[bl]? = some (.cells (bvs (DiskM.donePages f d.pages (d.row.take k)).flatten).toArray 127 (0, 0)) ∧ (∀ j, j < w.heap.size → j ≠ bl → wr.heap[j]? = w.heap[j]?) ∧ Step (Only D) w o wr o)
    (fun i _ => d.row.length - (intOf i).toNat)
  case atStart => exact ⟨0, Nat.zero_le _, rfl, hbl, fun _ _ _ => rfl, Step.refl _ _ _⟩
  case round =>
    obtain ⟨k, hk, rfl, hB, hsame, hstep⟩ := hrel
    have hplr : p < wr.heap.size := Nat.lt_of_lt_of_le hpl hstep.size
    have hpr : wr.heap[p]? = w.heap[p]? := hsame p hpl hpbl
    have c0r : wr.cell? ⟨p, 0, none⟩ = some (.slice (some ⟨bl, 0, none⟩) d.pages.length d.pages.length) := by rw [World.cell?_of_block (w := w) (a := ⟨p, 0, none⟩) hpr]; exact c0
    have f1r : wr.frozen? ⟨p, 1, none⟩ = false := by rw [World.frozen?_of_block (w := w) (a := ⟨p, 1, none⟩) hpr]; exact f1
    have c1r : wr.cell? ⟨p, 1, none⟩ = some (.slice ra d.row.length rcap) := by rw [World.cell?_of_block (w := w) (a := ⟨p, 1, none⟩) hpr]; exact c1
    by_cases hlt : k < d.row.length
    · obtain ⟨g, hg, cur, hcur, htk⟩ : ∃ g, ra = some ⟨g, 0, none⟩ ∧ ∃ cur : Array Value, w.heap[g]? = some (.cells cur 129 (0, 0)) ∧ cur.toList.take (d.row.length * 513) = rowCells d.row := by
        rcases hown.2 with ⟨_, h0⟩ | ⟨g, cap, cur, hv, _, hgg, _, _, _, htake⟩
        · omega
        · simp only [Value.slice.injEq] at hv
          exact ⟨g, hv.1, cur, hgg, htake⟩
      subst hg
      have hx := hw4 d.row[k] (List.getElem_mem hlt)
      have hgz := lt_of_block hcur
      have hgbl : g ≠ bl := by rintro rfl; have := orr g rfl; rw [olH.out] at this; simp at this
      have hent : wr.rangeAt g (k * 513) (Value.int .i64 (d.row[k].1 : Int) :: bvs d.row[k].2) := by
        have e1 : wr.heap[g]? = some (.cells cur.toList.toArray 129 (0, 0)) := by rw [hsame g hgz hgbl]; simpa using hcur
        have := range_of_block e1 (k * 513) 513
        have e2 : (cur.toList.drop (k * 513)).take 513 = ((rowCells d.row).drop (k * 513)).take 513 := by
          rw [← htk, List.drop_take, List.take_take]
          congr 1; omega
        rwa [e2, get_rowCells _ _ hlt (fun x hx => (hw4 x hx).2)] at this
      have hld2 := load129 hx.2 hent
      have hPk := hPWH.out (d.row.take k) (fun x hx => hw4 x (List.mem_of_mem_take hx))
      have hsn : DiskM.donePages f d.pages (d.row.take (k + 1)) = DiskM.doneOne f (DiskM.donePages f d.pages (d.row.take k)) (d.row[k], k) := by
        rw [List.take_succ_eq_append_getElem hlt, DiskM.donePages_snoc, List.length_take, Nat.min_eq_left (by omega)]
      have hsnH := hidden hsn
      have hPkH := hidden hPk
      have hXH := hidden hx
      have hs1 : Step (Only D) w o (wr.alloc (.cells (Value.int .i64 (d.row[k].1 : Int) :: bvs d.row[k].2).toArray 129)) o := hstep.alloc' _
      have hx1 : d.row[k].1 < d.pages.length := hx.1
      clear hsn hx hent htk hcur hPk
      generalize hrowk : d.row[k] = x at *
      obtain ⟨xa, xl⟩ := x
      clear hrowk
      simp only at hXH hld2 hsnH hs1 hx1
      generalize hpk : DiskM.donePages f d.pages (d.row.take k) = pk at *
      have hpkH := hidden hpk
      clear hpk
      have hxlH : Hid (xl.length = 512) := hXH.out.2
      have hxaI : (xa : Int) < (d.pages.length : Int) := by omega
      have hnew : (wr.alloc (.cells (Value.int .i64 (xa : Int) :: bvs xl).toArray 129)).heap[wr.heap.size]? = some (.cells (Value.int .i64 (xa : Int) :: bvs xl).toArray 129 (0, 0)) := heap_alloc_new wr _
      have hblr : bl < wr.heap.size := lt_of_block hB
      have hB2 : (wr.alloc (.cells (Value.int .i64 (xa : Int) :: bvs xl).toArray 129)).heap[bl]? = some (.cells (bvs pk.flatten).toArray 127 (0, 0)) := by rw [Below.heap_alloc _ _ _ hblr]; exact hB
      have hc0x : (wr.alloc (.cells (Value.int .i64 (xa : Int) :: bvs xl).toArray 129)).cell? ⟨p, 0, none⟩ = some (.slice (some ⟨bl, 0, none⟩) d.pages.length d.pages.length) := by rw [World.cell?_alloc_lt _ _ _ hplr]; exact c0r
      have hsz : (wr.alloc (.cells (Value.int .i64 (xa : Int) :: bvs xl).toArray 129)).heap.size = wr.heap.size + 1 := by simp
      go_wp2_with (first
        | (refine wpList_run rfl (exec_load 129 (.tmp 14) rfl g (k * 513) rfl hld2) ?_; simp only [Act.put, List.setIfInBounds_toArray, List.set_cons_zero, List.set_cons_succ])
        | (refine wpList_run rfl (exec_alloc 129 rfl (run_alloc_zero wr 129 zero513.toArray zc129)) ?_; simp only [Act.put, List.setIfInBounds_toArray, List.set_cons_zero, List.set_cons_succ])
        | (refine wpList_skipped rfl (exec_store 129 (.tmp 5) (.tmp 15) rfl wr.heap.size 0 (Value.int .i64 (xa : Int) :: bvs xl) rfl rfl (there_of_block (heap_alloc_new wr _) 0 _ (by rw [List.length_cons, length_bvs, hxlH.out, length_zero513]; omega)) (by rw [List.length_cons, length_bvs, hxlH.out]; exact s129) (one_cons rfl (one_bvs _))) ?_
           rw [setCells_alloc_whole _ _ _ _ (by rw [List.length_cons, length_bvs, hxlH.out, List.size_toArray, length_zero513])]))
      generalize hW : wr.alloc (.cells (Value.int .i64 (xa : Int) :: bvs xl).toArray 129) = W at *
      have hxa0 : W.cell? ⟨wr.heap.size, 0, none⟩ = some (.int .i64 (xa : Int)) := by rw [cell_of_block hnew 0]; rfl
      refine wp_region_need (fun w' => w'.cell? ⟨p, 0, none⟩ = some (.slice (some ⟨bl, 0, none⟩) d.pages.length d.pages.length) ∧ w'.cell? ⟨wr.heap.size, 0, none⟩ = some (.int .i64 (xa : Int))) (fun _ => true) (by kernel_rfl) ⟨hc0x, hxa0⟩ (fun hHeld => ?_)
      refine wpAnyN_take (i := 0) (v := ?_) rfl (by kernel_rfl) (by kernel_rfl) (by kernel_rfl) (by kernel_rfl) (fun _ _ _ h => h) (Or.inl ⟨by rfl, ?_⟩) (by assumption) ?_
      rotate_left
      · intro w hSw; ((try dsimp only at hSw); go_simp; (try with_reducible rfl))
      simp only [Act.put, List.setIfInBounds_toArray, List.set_cons_zero, List.set_cons_succ]
      refine wpAnyN_take (i := 1) (v := ?_) rfl (by kernel_rfl) (by kernel_rfl) (by kernel_rfl) (by kernel_rfl) (fun _ _ _ h => h) (Or.inl ⟨by rfl, ?_⟩) (by assumption) ?_
      rotate_left
      · intro w hSw; ((try dsimp only at hSw); go_simp; (try with_reducible rfl))
      simp only [Act.put, List.setIfInBounds_toArray, List.set_cons_zero, List.set_cons_succ]
      refine wpAnyN_take (i := 2) (v := ?_) rfl (by kernel_rfl) (by kernel_rfl) (by kernel_rfl) (by kernel_rfl) (fun _ _ _ h => h) (Or.inl ⟨by rfl, ?_⟩) (by assumption) ?_
      rotate_left
      · intro w hSw; ((try dsimp only at hSw); go_simp; (try with_reducible rfl))
      simp only [Act.put, List.setIfInBounds_toArray, List.set_cons_zero, List.set_cons_succ]
      refine wpAnyN_take (i := 3) (v := ?_) rfl (by kernel_rfl) (by kernel_rfl) (by kernel_rfl) (by kernel_rfl) (fun _ _ _ h => h) (Or.inl ⟨by rfl, ?_⟩) (by assumption) ?_
      rotate_left
      · intro w hSw; ((try dsimp only at hSw); go_simp; (try with_reducible rfl))
      simp only [Act.put, List.setIfInBounds_toArray, List.set_cons_zero, List.set_cons_succ]
      refine wpAnyN_take (i := 4) (v := ?_) rfl (by kernel_rfl) (by kernel_rfl) (by kernel_rfl) (by kernel_rfl) (fun _ _ _ h => h) (Or.inl ⟨by rfl, ?_⟩) (by assumption) ?_
      rotate_left
      · intro w hSw; ((try dsimp only at hSw); go_simp; (try with_reducible rfl))
      simp only [Act.put, List.setIfInBounds_toArray, List.set_cons_zero, List.set_cons_succ]
      refine wpAnyN_take (i := 5) (v := ?_) rfl (by kernel_rfl) (by kernel_rfl) (by kernel_rfl) (by kernel_rfl) (fun _ _ _ h => h) (Or.inl ⟨by rfl, ?_⟩) (by assumption) ?_
      rotate_left
      · intro w hSw; ((try dsimp only at hSw); go_simp; (try with_reducible rfl))
      simp only [Act.put, List.setIfInBounds_toArray, List.set_cons_zero, List.set_cons_succ]
      refine wpAnyN_take (i := 6) (v := ?_) rfl (by kernel_rfl) (by kernel_rfl) (by kernel_rfl) (by kernel_rfl) (fun _ _ _ h => h) (Or.inl ⟨by rfl, ?_⟩) (by assumption) ?_
      rotate_left
      · intro w hSw; ((try dsimp only at hSw); go_simp; (try with_reducible rfl))
      simp only [Act.put, List.setIfInBounds_toArray, List.set_cons_zero, List.set_cons_succ]
      refine wpAnyN_take (i := 7) (v := ?_) rfl (by kernel_rfl) (by kernel_rfl) (by kernel_rfl) (by kernel_rfl) (fun _ _ _ h => h) (Or.inl ⟨by rfl, ?_⟩) (by assumption) ?_
      rotate_left
      · intro w hSw; ((try dsimp only at hSw); go_simp; (try with_reducible rfl))
      simp only [Act.put, List.setIfInBounds_toArray, List.set_cons_zero, List.set_cons_succ]
      refine wpAnyN_take (i := 8) (v := ?_) rfl (by kernel_rfl) (by kernel_rfl) (by kernel_rfl) (by kernel_rfl) (fun _ _ _ h => h) (Or.inl ⟨by rfl, ?_⟩) (by assumption) ?_
      rotate_left
      · intro w hSw; ((try dsimp only at hSw); go_simp; (try with_reducible rfl))
      simp only [Act.put, List.setIfInBounds_toArray, List.set_cons_zero, List.set_cons_succ]
      refine wpAnyN_take (i := 11) (v := ?_) rfl (by kernel_rfl) (by kernel_rfl) (by kernel_rfl) (by kernel_rfl) (fun _ _ _ h => h) (Or.inl ⟨by rfl, ?_⟩) (by assumption) ?_
      rotate_left
      · intro w hSw; ((try dsimp only at hSw); go_simp; (try with_reducible rfl))
      simp only [Act.put, List.setIfInBounds_toArray, List.set_cons_zero, List.set_cons_succ]
      refine wpAnyN_take (i := 12) (v := ?_) rfl (by kernel_rfl) (by kernel_rfl) (by kernel_rfl) (by kernel_rfl) (fun _ _ _ h => h) (Or.inl ⟨by rfl, ?_⟩) (by assumption) ?_
      rotate_left
      · intro w hSw; ((try dsimp only at hSw); go_simp; (try with_reducible rfl))
      simp only [Act.put, List.setIfInBounds_toArray, List.set_cons_zero, List.set_cons_succ]
      have hfk : (0 : Int) ≤ (f k : Int) ∧ (f k : Int) ≤ 512 := ⟨by omega, by have := hf k; omega⟩
      have hfk1 := hfk.1
      have hfk2 := hfk.2
      have hk6 : k ≤ 1000000 := by omega
      have hWk : ∀ j, j < w.heap.size → j ≠ bl → W.drew.heap[j]? = w.heap[j]? := fun j hj hjb => by
        show W.heap[j]? = _
        rw [← hW, Below.heap_alloc _ _ _ (Nat.lt_of_lt_of_le hj hstep.size)]; exact hsame j hj hjb
      have hcallk := hsaysH.out k W.drew hlt (fun j hj hjo => hWk j hj (by rintro rfl; rw [olH.out] at hjo; exact hjo rfl))
      have hcallH := hidden hcallk
      clear hcallk hfk
      refine wpAnyN_one (i := 9) rfl (by kernel_rfl) ?_
      go_wp2_with ((with_reducible refine hcallH.out.mono ?_); rintro e x' ⟨rfl, rfl⟩)
      refine ⟨fun _ => hHeld, ?_⟩
      refine wpAnyN_one (i := 10) rfl (by kernel_rfl) ?_
      go_wp2_with fail
      refine ⟨fun _ => hHeld, ?_⟩
      have hcl : (bvs (xl.take (f k))).length = f k := by rw [length_bvs, List.length_take, hxlH.out, Nat.min_eq_left (hf k)]
      have hnewW : W.drew.heap[wr.heap.size]? = some (.cells (Value.int .i64 (xa : Int) :: bvs xl).toArray 129 (0, 0)) := hnew
      have hsrc : W.drew.rangeAt wr.heap.size 1 (bvs (xl.take (f k))) := by
        have := range_of_block hnewW 1 (f k)
        rwa [List.drop_one, List.tail_cons, bvs_take] at this
      have hpl2 : (bvs pk.flatten).length = d.pages.length * 512 := by rw [length_bvs, length_pages _ hPkH.out.2, hPkH.out.1]
      have hfit : xa * 512 + (bvs (xl.take (f k))).length ≤ (bvs pk.flatten).length := by rw [hcl, hpl2]; have := hf k; omega
      have hB3 : W.drew.heap[bl]? = some (.cells (bvs pk.flatten).toArray 127 (0, 0)) := hB2
      have hth := there_of_block hB3 (xa * 512) _ hfit
      have hcp := run_copy_cells (P := Try.prog) W.drew 28 28 3 5 bl (xa * 512) (f k) 512 ⟨wr.heap.size, 1, none⟩ 512 512 (bvs (xl.take (f k))) Try.underlying28 s5 (by rw [hcl]; exact (Nat.min_eq_right (hf k)).symm)
        (fun j v hv => by rw [Addr.add_mid]; exact hsrc j v hv) (fun j hj => (hth j hj).1) (fun j hj => (hth j hj).2) (one_bvs _)
      have hcpl : (bvs (xl.take (f k))).length ≤ 512 := by rw [hcl]; exact hf k
      have hcells := heap_setCells_same bl 127 (bvs (xl.take (f k))) (xa * 512) W.drew _ hB3 hfit
      refine wpAnyN_one (i := 13) rfl (by kernel_rfl) ?_
      refine wpList_run rfl (exec_copy (.tmp 26) (.tmp 28) 28 28 rfl hcp) ?_
      refine wpList_nil ?_
      simp only [Act.put, List.setIfInBounds_toArray, List.set_cons_zero, List.set_cons_succ]
      have hplW : p ≠ wr.heap.size := by omega
      have hnebl : wr.heap.size ≠ bl := by omega
      refine ⟨fun _ => ⟨?_, ?_⟩, ?_⟩
      · rw [World.cell?_of_block (w := W.drew) (a := ⟨p, 0, none⟩) (heap_setCells_other bl _ _ _ p hpbl)]; exact hc0x
      · rw [World.cell?_of_block (w := W.drew) (a := ⟨wr.heap.size, 0, none⟩) (heap_setCells_other bl _ _ _ _ hnebl)]; exact hxa0
      refine wpAnyN_done (by kernel_rfl) ?_ _
      clear hcp hth hsrc hcells
      generalize hW4 : W.drew.setCells bl (xa * 512) (bvs (xl.take (f k))) = W4 at *
      go_wp2_with fail
      go_roundw
      case rel =>
        refine ⟨k + 1, hlt, by go_num, ?_, ?_, ?_⟩
        · rw [← hW4, heap_setCells_same bl 127 (bvs (xl.take (f k))) (xa * 512) W.drew _ hB3 hfit, hsnH.out]
          rw [hcl, bvs_take, bvs_drop, ← bvs_append, ← bvs_append]
          have := set_pages pk xa (xl.take (f k)) (by rw [hPkH.out.1]; exact hx1) hPkH.out.2 (by rw [List.length_take, hxlH.out]; have := hf k; omega)
          have hl2 : (xl.take (f k)).length = f k := by rw [← length_bvs]; exact hcl
          rw [hl2] at this
          rw [this]; rfl
        · intro j hj hjb
          rw [← hW4, heap_setCells_other bl _ _ _ j hjb]
          show W.heap[j]? = _
          rw [← hW, Below.heap_alloc _ _ _ (Nat.lt_of_lt_of_le hj hstep.size)]; exact hsame j hj hjb
        · rw [← hW4]
          exact (hs1.drew).setCells bl _ _ (.inl (by rw [olH.out]; rfl))
      case measure => simp [intOf]; omega
    · have hke : k = d.row.length := by omega
      subst hke
      have hPk := hPWH.out d.row hw4
      have hPkH := hidden hPk
      clear hPk
      have hfin : Step (Only D) w o (wr.setCell ⟨p, 1, none⟩ (.slice none 0 0)) o := hstep.setCell _ (.inl (by show Only D (o p).1; rw [opH.out]; rfl))
      have hat : DiskAt (wr.setCell ⟨p, 1, none⟩ (.slice none 0 0)) o D p (d.done f) := by
        refine ⟨bl, .slice none 0 0, ?_, ?_, World.ownsRow_nil _ _ _ _, opH.out, olH.out, ?_, ?_⟩
        · have := heap_setCell_at (i := 1) (.slice none 0 0) (hpr.trans hp)
          rw [this]; simp [DiskM.done, hPkH.out.1]
        · rw [Below.heap_setCell _ _ _ _ (by exact fun h => hpbl h.symm), hB, List.take_length]; rfl
        · intro j hj; simp [Value.ownBlock] at hj
        · exact ⟨by simp only [DiskM.done, hPkH.out.1]; exact hw1, by simp only [DiskM.done, hPkH.out.1]; exact hw2, hPkH.out.2, by simp [DiskM.done], hw5, hw6⟩
      go_wp2_with fail
      go_end0
      exact ⟨_, o, rfl, hfin, rfl, hat⟩
end Go.Proofs.YtfgggkheadfiaaaR
/- Contracts of the disk: Sync, Restart. -/
namespace Go.Proofs.YtfgggkheadfiaaaR
open Go Go.RowKit
attribute [local go_sem ↓] Go.wp_at_zero Go.wp_at_succ

def ivs (l : List Int) : List Value := l.map (.int .i64)
def Ints (w : World) (o : Own) (v : Value) (l : List Int) : Prop := Slc w o v l.length (ivs l)

theorem sync1_any (i : Int) (x : World) : Calls Try.prog 70 #[.int .i64 i] x fun e x' => e = .returned (.int .i64 512) ∧ x = x' := by
  go_enter Try.func70, Try.ntmps70
  go_wp2
  go_ret
  exact ⟨rfl, rfl⟩

theorem fate_eq (a : Int) : ((a.tmod 513) + 513) % 513 = a % 513 := by
  have e1 : (a.tmod 513) = a % 513 ∨ (a.tmod 513) = a % 513 - 513 := by
    rw [Int.tmod_eq_emod]
    split
    · left; omega
    · right; simp
  omega

set_option maxRecDepth 100000 in
set_option maxHeartbeats 800000 in
theorem restart1_any (i : Nat) (x : World) (o : Own) (box : Nat) (fv : Value) (l : List Int) (hbox : x.cell? ⟨box, 0, none⟩ = some fv) (hl : Ints x o fv l) (hwf : ∀ a ∈ l, -9223372036854775808 ≤ a ∧ a ≤ 9223372036854775807) (hi : i ≤ 1000000) :
    Calls Try.prog 71 #[.int .i64 (i : Int), .pointer (some ⟨box, 0, none⟩)] x fun e x' => e = .returned (.int .i64 (DiskM.fate l i : Int)) ∧ x = x' := by
  rcases hl with ⟨⟨sa, sc, rfl⟩, hn, hcs⟩ | ⟨b, off, cap, rfl, hlc, hm, ho, hb, hr⟩
  · have : l = [] := List.eq_nil_of_length_eq_zero hn
    subst this
    have hE : (DiskM.fate [] i : Int) = 0 := by simp [DiskM.fate]
    rw [hE]
    go_enter Try.func71, Try.ntmps71
    go_wp2
    go_ret
    exact ⟨rfl, rfl⟩
  · by_cases hlt : i < l.length
    · have hc : x.cell? ⟨b, off + i, none⟩ = some (.int .i64 l[i]) := hr i _ (by simp [ivs, hlt])
      have hbd := hwf l[i] (List.getElem_mem hlt)
      have hE : (DiskM.fate l i : Int) = l[i] % 513 := by
        simp only [DiskM.fate, List.getD_eq_getElem?_getD, List.getElem?_eq_getElem hlt, Option.getD_some]
        omega
      rw [hE]
      generalize l[i] = a at *
      have hcap : (l.length : Int) ≤ 9223372036854775807 := by unfold maxLen at hm; omega
      have b1 := hbd.1
      have b2 := hbd.2
      clear hbd hE hr hwf
      have g1 : -513 < a.tmod 513 := by have := Int.tmod_lt_of_pos a (show (0:Int) < 513 by omega); have h2 := Int.lt_tmod_of_pos a (show (0:Int) < 513 by omega); omega
      have g2 : a.tmod 513 < 513 := Int.tmod_lt_of_pos a (by omega)
      go_enter Try.func71, Try.ntmps71
      go_wp2
      go_ret
      exact ⟨by rw [← fate_eq a]; rfl, rfl⟩
    · have hE : (DiskM.fate l i : Int) = 0 := by
        simp only [DiskM.fate, List.getD_eq_getElem?_getD]
        rw [List.getElem?_eq_none (by omega)]; simp
      rw [hE]
      clear hE
      have hcap : (l.length : Int) ≤ 9223372036854775807 := by unfold maxLen at hm; omega
      go_enter Try.func71, Try.ntmps71
      go_wp2
      go_ret
      exact ⟨rfl, rfl⟩

theorem sync_no {w : World} {o : Own} {D p : Nat} {d : DiskM} (h : DiskAt w o D p d) (hc : (d.counted (d.asked 0 512)).2 ≠ 0) :
    Calls Try.prog 24 #[.pointer (some ⟨p, 0, none⟩)] w (Ret (Only D) w o fun v w' o' => v = .int .i64 d.sync.2 ∧ DiskAt w' o' D p d.sync.1) := by
  have hE : d.sync = d.counted (d.asked 0 512) := by simp [DiskM.sync, hc]
  rw [hE]
  obtain ⟨e, he⟩ : ∃ e, Hid (d.asked 0 512 = e) := ⟨_, rfl⟩
  rw [he.out] at hc ⊢
  obtain ⟨d1, e1, hd⟩ : ∃ d1 e1, Hid (d.counted e = (d1, e1)) := ⟨_, _, rfl⟩
  rw [hd.out] at hc ⊢
  have hc' : (e1 != 0) = true := by simpa using hc
  clear hc hE
  go_enter Try.func24, Try.ntmps24
  go_wp2_with (first | (go_at_call 68; refine (asked_is h _ _ _ he).mono ?_; rintro e w' ⟨rfl, rfl⟩) | (go_at_call 67; refine (counted_is h _ hd).mono ?_; rintro e w' ⟨v1, o1, rfl, hs1, rfl, hd1⟩))
  go_ret
  exact ⟨_, o1, rfl, hs1, rfl, hd1⟩

theorem sync_any {w : World} {o : Own} {D p : Nat} {d : DiskM} (h : DiskAt w o D p d) (hrow : d.row.length ≤ 1000000) :
    Calls Try.prog 24 #[.pointer (some ⟨p, 0, none⟩)] w (Ret (Only D) w o fun v w' o' => v = .int .i64 d.sync.2 ∧ DiskAt w' o' D p d.sync.1) := by
  by_cases hc : (d.counted (d.asked 0 512)).2 = 0
  · have hE : d.sync = ((d.counted (d.asked 0 512)).1.done fun _ => 512, 0) := by simp [DiskM.sync, hc]
    rw [hE]
    obtain ⟨hpg, hrw⟩ := DiskM.counted_same d (d.asked 0 512)
    obtain ⟨e, he⟩ : ∃ e, Hid (d.asked 0 512 = e) := ⟨_, rfl⟩
    rw [he.out] at hc hrw ⊢
    obtain ⟨d1, e1, hd⟩ : ∃ d1 e1, Hid (d.counted e = (d1, e1)) := ⟨_, _, rfl⟩
    rw [hd.out] at hc hrw ⊢
    simp only at hc hrw ⊢
    subst hc
    have hrow1 : d1.row.length ≤ 1000000 := by rw [hrw]; exact hrow
    clear hE hpg hrw
    go_enter Try.func24, Try.ntmps24
    go_wp2_with (first
      | (go_at_call 68; refine (asked_is h _ _ _ he).mono ?_; rintro e w' ⟨rfl, rfl⟩)
      | (go_at_call 67; refine (counted_is h _ hd).mono ?_; rintro e w1 ⟨v1, o1, rfl, hs1, rfl, hd1⟩)
      | (go_at_call 69; refine (done_any hd1 hrow1 70 #[] (fun _ => 512) (by simp) Try.call70 ?_).mono ?_; (intro i x _ _; exact sync1_any _ _); rintro e w2 ⟨v2, o2, rfl, hs2, rfl, hd2⟩))
    go_ret
    exact ⟨_, o2, rfl, hs1.trans hs2, rfl, hd2⟩
  · exact sync_no h hc
theorem sync_nil (w : World) : Calls Try.prog 24 #[.pointer none] w fun e w' => e = .returned (.int .i64 8) ∧ w = w' := by
  go_enter Try.func24, Try.ntmps24
  go_wp2_with (first | (go_at_call 68; refine (asked_nil _ _ _).mono ?_; rintro e w' ⟨rfl, rfl⟩) | (go_at_call 67; refine (counted_pass _ _ _ ?_).mono ?_; (simp); rintro e w' ⟨rfl, rfl⟩))
  go_ret
  exact ⟨rfl, rfl⟩

theorem tag0 {o : Own} {k : Nat} : tagAt o k (0, 0) k = (0, 0) := tagAt_same _ _ _
set_option maxRecDepth 100000 in
set_option maxHeartbeats 800000 in
theorem restart_any {w : World} {o : Own} {D p : Nat} {d : DiskM} (h : DiskAt w o D p d) (hD : D ≠ 0) (hrow : d.row.length ≤ 1000000) (fv : Value) (l : List Int) (hl : Ints w o fv l) (hwf : ∀ a ∈ l, -9223372036854775808 ≤ a ∧ a ≤ 9223372036854775807) :
    Calls Try.prog 26 #[.pointer (some ⟨p, 0, none⟩), fv] w (Ret (Only D) w o fun v w' o' => v = .tuple #[] ∧ DiskAt w' o' D p (d.restart l)) := by
  obtain ⟨ra, rc, rfl⟩ := slc_form hl
  generalize hfe : Value.slice ra l.length rc = fv at *
  have hs0 : Step (Only D) w o (w.alloc (.cells #[fv] 34)) (tagAt o w.heap.size (0, 0)) := (Step.refl _ w o).alloc _ _
  have hd0 : DiskAt (w.alloc (.cells #[fv] 34)) (tagAt o w.heap.size (0, 0)) D p d := h.step ((Step.refl Nobody w o).alloc _ _) (fun x => x)
  have hl0 : Ints (w.alloc (.cells #[fv] 34)) (tagAt o w.heap.size (0, 0)) fv l := hl.step ((Step.refl Nobody w o).alloc _ _) (fun x => x)
  have hbx : (w.alloc (.cells #[fv] 34)).heap[w.heap.size]? = some (.cells #[fv] 34 (0, 0)) := heap_alloc_new w _
  have hsays : ∀ (i : Nat) (x : World), i < d.row.length → (∀ k, k < (w.alloc (.cells #[fv] 34)).heap.size → (tagAt o w.heap.size (0, 0) k).1 ≠ D → x.heap[k]? = (w.alloc (.cells #[fv] 34)).heap[k]?) →
      Calls Try.prog 71 (#[.int .i64 (i : Int)] ++ #[.pointer (some ⟨w.heap.size, 0, none⟩)]) x fun e x' => e = .returned (.int .i64 (DiskM.fate l i : Int)) ∧ x = x' := by
    intro i x hi hx
    have hb1 : x.heap[w.heap.size]? = some (.cells #[fv] 34 (0, 0)) := by rw [hx _ (by simp) (by rw [tagAt_same]; exact fun h => hD h.symm)]; exact hbx
    have hl1 : Ints x (fun k => if k < (w.alloc (.cells #[fv] 34)).heap.size then tagAt o w.heap.size (0, 0) k else (0, 0)) fv l := by
      rcases hl0 with h0 | ⟨b, off, cap, hv, hlc, hm, ho, hb, hr⟩
      · exact .inl h0
      · have e := hx b hb (by rw [ho]; exact fun h => hD h.symm)
        refine .inr ⟨b, off, cap, hv, hlc, hm, by simp only [if_pos hb]; exact ho, ?_, range_same hr e⟩
        have hb' : b < x.heap.size := by
          rcases Nat.lt_or_ge b x.heap.size with h1 | h1
          · exact h1
          · rw [Array.getElem?_eq_none h1, Array.getElem?_eq_getElem hb] at e; cases e
        exact hb'
    exact restart1_any i x _ w.heap.size fv l (cell_of_one hb1) hl1 hwf (by omega)
  have hsaysH := hidden hsays
  clear hsays hwf hl hl0 hbx
  subst hfe
  have hlast : ∀ (w2 : World) (o2 : Own), Step (Only D) w o w2 o2 → DiskAt w2 o2 D p (d.done (DiskM.fate l)) → Hid (Step (Only D) w o ((w2.setCell ⟨p, 3, none⟩ (.bool false)).setCell ⟨p, 2, none⟩ (.int .i64 (-1))) o2 ∧
      DiskAt ((w2.setCell ⟨p, 3, none⟩ (.bool false)).setCell ⟨p, 2, none⟩ (.int .i64 (-1))) o2 D p (d.restart l)) := fun w2 o2 hs2 hd2 =>
    ⟨(hs2.trans (hd2.setStep 3 (.bool false))).trans ((hd2.setDead false).setStep 2 (.int .i64 (-1))), (hd2.setDead false).setLeft (-1) (by omega)⟩
  go_enter Try.func26, Try.ntmps26
  go_wp2_with (first
    | (go_at_call 69; refine (done_any hd0 hrow 71 #[.pointer (some ⟨w.heap.size, 0, none⟩)] (DiskM.fate l) (DiskM.fate_le l) Try.call71 hsaysH.out).mono ?_; rintro e w2 ⟨v2, o2, rfl, hs2, rfl, hd2⟩
       have hl2 := hlast w2 o2 (hs0.trans hs2) hd2
       clear hlast
       obtain ⟨bl, rv, ⟨c0, c1, c2, c3⟩, ⟨f1, f2, f3⟩, -⟩ := hd2.open
       have c2x : (w2.setCell ⟨p, 3, none⟩ (.bool false)).cell? ⟨p, 2, none⟩ = some (.int .i64 (d.done (DiskM.fate l)).left) := by rw [World.cell?_setCell_other _ _ _ _ (by simp)]; exact c2))
  go_end0
  exact ⟨_, o2, rfl, hl2.out.1, rfl, hl2.out.2⟩
theorem restart_nil (w : World) (a : Option Addr) (n c : Nat) (o : Own) : Calls Try.prog 26 #[.pointer none, .slice a n c] w (Ret Nobody w o fun v _ _ => v = .tuple #[]) := by
  have hs := (Step.refl Nobody w o).alloc' (.cells #[.slice a n c] 34)
  go_enter Try.func26, Try.ntmps26
  go_wp2
  go_end0
  exact ⟨_, o, rfl, hs, rfl⟩
end Go.Proofs.YtfgggkheadfiaaaR
/- Contract of the laws' own 'Sheet': 512 bytes that rise. -/
namespace Go.Proofs.YtfgggkheadfiaaaR
open Go Go.RowKit
attribute [local go_sem ↓] Go.wp_at_zero Go.wp_at_succ

def sheetSt (b s : UInt8) : Nat → UInt8
  | 0 => b
  | n + 1 => sheetSt b s n + s
def sheetL (b s : UInt8) (n : Nat) : List UInt8 := (List.range n).map (sheetSt b s)
theorem sheetL_succ (b s : UInt8) (n : Nat) : sheetL b s (n + 1) = sheetL b s n ++ [sheetSt b s n] := by simp [sheetL, List.range_succ]
theorem length_sheetL (b s : UInt8) (n : Nat) : (sheetL b s n).length = n := by simp [sheetL]
theorem sheetL_zero (b : UInt8) (n : Nat) : sheetL b 0 n = List.replicate n b := by
  have h : ∀ k, sheetSt b 0 k = b := by
    intro k; induction k with
    | zero => rfl
    | succ k ih => rw [sheetSt, ih]; simp
  apply List.ext_getElem
  · simp [sheetL]
  · intro i h1 h2; simp [sheetL, h]

theorem inf5 : (Try.prog.info? 5).map (fun i => (i.zero.map (fun z => z.cells.toList), i.size, i.bytes)) = some (some [.int .u8 0], 1, 1) := by kernel_rfl
theorem u8_add (x y : UInt8) : ((x.toNat : Int) + (y.toNat : Int)) % 256 = ((x + y).toNat : Int) := by
  rw [UInt8.toNat_add]; omega

/-- New bytes of the call's own: they may be appended to. -/
def NewB (w w' : World) (o' : Own) (v : Value) (l : List UInt8) : Prop :=
  w'.ownsRow w.heap.size 5 1 v l.length (bvs l) ∧ ∀ k, v.ownBlock = some k → o' k = (0, 0)
theorem NewB.bytes {w w' : World} {o' : Own} {v : Value} {l : List UInt8} (h : NewB w w' o' v l) : Bytes w' o' v l := by
  obtain ⟨h1, h2⟩ := h
  rcases h1.2 with ⟨rfl, h0⟩ | ⟨g, cap, cur, rfl, hb, hg, hnc, hcm, hcs, htake⟩
  · rw [List.eq_nil_of_length_eq_zero h0]; exact Bytes.nil _ _
  · refine .inr ⟨g, 0, cap, rfl, hnc, hcm, by rw [h2 g rfl], lt_of_block hg, ?_⟩
    have e1 : w'.heap[g]? = some (.cells cur.toList.toArray 5 (0, 0)) := by simpa using hg
    have := range_of_block e1 0 l.length
    rw [List.drop_zero] at this
    rw [Nat.mul_one] at htake
    rwa [htake] at this

set_option maxRecDepth 100000 in
set_option maxHeartbeats 1600000 in
theorem sheet_any (b s : UInt8) (w : World) (o : Own) : Calls Try.prog 23 #[.int .u8 (b.toNat : Int), .int .u8 (s.toNat : Int)] w (Ret Nobody w o fun v w' o' => NewB w w' o' v (sheetL b s 512)) := by
  go_enter Try.func23, Try.ntmps23
  go_wp2_with fail
  go_loopw [0, 5, 6] (fun x v i wr => ∃ k : Nat, k ≤ 512 ∧ i = .int .i64 k ∧ x = .int .u8 ((sheetSt b s k).toNat : Int) ∧ wr.ownsRow w.heap.size 5 1 v k (bvs (sheetL b s k)) ∧ Below w.heap.size w wr)
    (fun _ _ i _ => 512 - (intOf i).toNat)
  case atStart => exact ⟨0, by omega, rfl, rfl, World.ownsRow_nil _ _ _ _, Below.refl _ _⟩
  case round =>
    obtain ⟨k, hk, rfl, rfl, hown, hbel⟩ := hrel
    by_cases hlt : k < 512
    · have hadd := u8_add (sheetSt b s k) s
      have hownA := hown.alloc (.cells #[.int .u8 ((sheetSt b s k).toNat : Int)] 5)
      have hnb : (wr.alloc (.cells #[.int .u8 ((sheetSt b s k).toNat : Int)] 5)).heap[wr.heap.size]? = some (.cells [Value.int .u8 ((sheetSt b s k).toNat : Int)].toArray 5 (0, 0)) := heap_alloc_new wr _
      obtain ⟨g, cap, w3, hrun, hown3, hgrow, hat, hlt3⟩ := run_append_row (P := Try.prog) _ 28 28 5 Try.underlying28 inf5 rfl (by omega) (by have := hbel.size; simp; omega) _ k (bvs (sheetL b s k)) hownA wr.heap.size 0 1 1
        [Value.int .u8 ((sheetSt b s k).toNat : Int)] rfl (range_whole hnb) (one_cons rfl (by simp)) (by omega) (by omega) (by omega)
      have hb3 : Below w.heap.size w w3 := (hbel.alloc hbel.size _).grown hgrow (by have := hbel.size; simp; omega) (fun k hk => (hown.lt k hk).1)
      have hown3' : w3.ownsRow w.heap.size 5 1 (.slice (some ⟨g, 0, none⟩) (k + 1) cap) (k + 1) (bvs (sheetL b s (k + 1))) := by rw [sheetL_succ, bvs_append]; exact hown3
      have haddH := hidden hadd
      have hrunH := hidden hrun
      clear hadd hown3 hrun hat hlt3 hnb hownA
      go_wp2_with ((with_reducible apply lit_append); exact hrunH.out; simp only [Act.put, List.setIfInBounds_toArray, List.set_cons_zero, List.set_cons_succ])
      go_roundw
      case rel => exact ⟨k + 1, by omega, by go_num, by rw [haddH.out]; rfl, hown3', hb3⟩
      case measure => simp [intOf]; omega
    · have : k = 512 := by omega
      subst this
      go_wp2
      go_ret
      refine ⟨_, (fun k => if k < w.heap.size then o k else (0, 0)), rfl, ⟨hbel.os, hbel.tape, hbel.output, hbel.size, fun k hk => if_pos hk, fun k hk _ => hbel.block k hk⟩, ?_, ?_⟩
      · rw [length_sheetL]; exact hown
      · intro k hk
        exact if_neg (by have := (hown.lt k hk).1; omega)
end Go.Proofs.YtfgggkheadfiaaaR
/- The laws of layer 7: contracts in the form that a law's walk wants; 'wakes', the example that each of them ends with. -/
namespace Go.Proofs.YtfgggkheadfiaaaR
open Go Go.RowKit
attribute [local go_sem ↓] Go.wp_at_zero Go.wp_at_succ

section
variable {w : World} {o : Own} {D p : Nat} {d d1 : DiskM} {e1 : Int}
theorem write_is (h : DiskAt w o D p d) (hD : D ≠ 0) (hrow : d.row.length ≤ 1000000) (at' : Int) (v : Value) (l : List UInt8) (hb : Bytes w o v l) (he : d.write at' l = (d1, e1)) :
    Calls Try.prog 22 #[.pointer (some ⟨p, 0, none⟩), .int .i64 at', v] w (Ret (Only D) w o fun v w' o' => v = .int .i64 e1 ∧ DiskAt w' o' D p d1) := by
  have := write_any h hD at' v l hb hrow
  rw [he] at this; exact this
theorem read_is {l : List UInt8} (h : DiskAt w o D p d) (hrow : d.row.length ≤ 1000000) (at' : Int) (he : d.read at' = (l, e1)) :
    Calls Try.prog 25 #[.pointer (some ⟨p, 0, none⟩), .int .i64 at'] w (Ret Nobody w o fun v w' o' => ∃ vb, v = .tuple #[vb, .int .i64 e1] ∧ NewPage w w' o' vb l) := by
  have := read_any h at' hrow
  rw [he] at this; exact this
theorem sync_is (h : DiskAt w o D p d) (hrow : d.row.length ≤ 1000000) (he : d.sync = (d1, e1)) :
    Calls Try.prog 24 #[.pointer (some ⟨p, 0, none⟩)] w (Ret (Only D) w o fun v w' o' => v = .int .i64 e1 ∧ DiskAt w' o' D p d1) := by
  have := sync_any h hrow
  rw [he] at this; exact this
theorem restart_is (h : DiskAt w o D p d) (hD : D ≠ 0) (hrow : d.row.length ≤ 1000000) (fv : Value) (l : List Int) (hl : Ints w o fv l) (hwf : ∀ a ∈ l, -9223372036854775808 ≤ a ∧ a ≤ 9223372036854775807) (he : d.restart l = d1) :
    Calls Try.prog 26 #[.pointer (some ⟨p, 0, none⟩), fv] w (Ret (Only D) w o fun v w' o' => v = .tuple #[] ∧ DiskAt w' o' D p d1) := by
  have := restart_any h hD hrow fv l hl hwf
  rw [he] at this; exact this
theorem new_is (n : Nat) (D : Nat) (h1 : 1 ≤ n) (h2 : n ≤ 4096) (he : DiskM.new n = d1) : Calls Try.prog 20 #[.int .i64 (n : Int)] w (Ret Nobody w o fun v w' o' => ∃ p, w.heap.size ≤ p ∧ v = .tuple #[.pointer (some ⟨p, 0, none⟩), .int .i64 0] ∧ DiskAt w' o' D p d1) := by
  have := new_ok n w o D h1 h2
  rw [he] at this; exact this
end

theorem np_nil {w w' : World} {o' : Own} {v : Value} (h : NewPage w w' o' v []) : v = .slice none 0 0 := by
  rcases h with ⟨h, _⟩ | ⟨b, _, h, _⟩
  · exact h
  · cases h
theorem np_page {w w' : World} {o' : Own} {v : Value} {l : List UInt8} (h : NewPage w w' o' v l) (hl : l.length = 512) :
    ∃ b, v = .slice (some ⟨b, 0, none⟩) 512 512 ∧ Bytes w' o' (.slice (some ⟨b, 0, none⟩) 512 512) l ∧ w.heap.size ≤ b ∧ Hid (w'.heap[b]? = some (.cells (bvs l).toArray 127 (0, 0)) ∧ o' b = (0, 0)) := by
  have hb := h.bytes
  rcases h with ⟨_, h⟩ | ⟨b, rfl, h, hbw, hh, ho⟩
  · rw [h] at hl; cases hl
  · exact ⟨b, rfl, hb, hbw, hh, ho⟩
theorem Bytes.cell {w : World} {o : Own} {b off n c : Nat} {l : List UInt8} (h : Bytes w o (.slice (some ⟨b, off, none⟩) n c) l) (i : Nat) {x : UInt8} (hx : l[i]? = some x) : w.cell? ⟨b, off + i, none⟩ = some (.int .u8 (x.toNat : Int)) := by
  rcases h.cases with ⟨_, h⟩ | ⟨b', off', cap, hv, _, _, _, _, hr⟩
  · rw [h] at hx; simp at hx
  · simp only [Value.slice.injEq, Option.some.injEq, Addr.mk.injEq] at hv
    obtain ⟨⟨rfl, rfl, _⟩, _⟩ := hv
    exact hr i (bv x) (by rw [get_bvs, hx]; rfl)
/-- A new row of numbers. -/
theorem ints_new3 (w : World) (o : Own) (l : List Int) (hl : l.length ≤ 1000000) : Ints (w.alloc (.cells (ivs l).toArray 3)) (tagAt o w.heap.size (0, 0)) (.slice (some ⟨w.heap.size, 0, none⟩) l.length l.length) l :=
  .inr ⟨w.heap.size, 0, l.length, rfl, Nat.le_refl _, by simp [maxLen]; omega, by rw [tagAt_same], by simp, range_whole (heap_alloc_new w _)⟩

/-- bytes as a string. -/
theorem conv_string {w : World} {o : Own} {v : Value} {l : List UInt8} (h : Bytes w o v l) : (convert 28 9 v).run Try.prog w = .ok (.string ⟨l.toArray⟩) w := by
  rcases h.cases with ⟨⟨a, c, rfl⟩, rfl⟩ | ⟨b, off, cap, rfl, hl, hm, ho, hb, hr⟩
  · rw [run_convert_bytes_string w 28 9 5 a 0 c Try.underlying28 Try.underlying5 Try.underlying9]
    cases a <;> simp [Conv.bytesToString, loadCells, loadCellsFrom] <;> rfl
  · have := run_convert_bytes_arg (P := Try.prog) w 28 5 Try.underlying28 Try.underlying5 b off l.length cap (l.map fun x => (x.toNat : Int)) (by simp) (fun i hi => by
      rw [hr i (bv l[i]) (by rw [get_bvs, List.getElem?_eq_getElem hi]; rfl)]
      simp [bv, List.getElem?_eq_getElem hi]) 9 Try.underlying9
    rw [this]
    simp [strOfNums, Function.comp_def]

def A512 : List UInt8 := List.replicate 512 97
def B512 : List UInt8 := List.replicate 512 98
def wk0 : DiskM := DiskM.new 2
def wk1 : DiskM := (wk0.write 0 A512).1
def wk2 : DiskM := (wk1.write 0 B512).1
def wk3 : DiskM := wk2.restart [5, 2]
def wkp : List UInt8 := (wk3.read 0).1
theorem pair_of {α β : Type} {q : α × β} {b : β} (h : q.2 = b) : q = (q.1, b) := by subst h; rfl
theorem wk1e : wk0.write 0 A512 = (wk1, 0) := by unfold wk1; exact pair_of (by decide +kernel)
theorem wk2e : wk1.write 0 B512 = (wk2, 0) := by unfold wk2; exact pair_of (by decide +kernel)
theorem wk2w : wk2.row.length = 2 := by decide +kernel
theorem wkpe : wk3.read 0 = (wkp, 0) := by unfold wkp; exact pair_of (by decide +kernel)
theorem wkpl : wkp.length = 512 := by decide +kernel
theorem wkp6 : wkp.take 6 = [98, 98, 97, 97, 97, 0] := by decide +kernel
theorem wkp511 : wkp[511]? = some 0 := by decide +kernel
theorem sheetA : sheetL 97 0 512 = A512 := sheetL_zero _ _
theorem sheetB : sheetL 98 0 512 = B512 := sheetL_zero _ _

theorem wk0n : DiskM.new 2 = wk0 := rfl
theorem wk3r : wk2.restart [5, 2] = wk3 := rfl
theorem wkr0 : wk0.row.length ≤ 1000000 := by decide +kernel
theorem wkr1 : wk1.row.length ≤ 1000000 := by decide +kernel
theorem wkr2 : wk2.row.length ≤ 1000000 := by decide +kernel
theorem wkr3 : wk3.row.length ≤ 1000000 := by decide +kernel
attribute [irreducible] wk0 wk1 wk2 wk3 wkp A512 B512

set_option maxRecDepth 100000 in
set_option maxHeartbeats 1600000 in
theorem wakes_any (w : World) (o : Own) : Calls Try.prog 27 #[] w (Ret Nobody w o fun v _ _ => v = .bool true) := by
  obtain ⟨D, hD0, hDf⟩ := fresh_tag o w.heap.size 0
  have hD : D ≠ 0 := by omega
  clear hD0
  go_enter Try.func27, Try.ntmps27
  go_wp2_with fail
  refine (new_is (o := o) 2 D (by omega) (by omega) wk0n).mono ?_; rintro e wc ⟨v, oc, rfl, hst, p, hp, rfl, hd⟩
  have hst := hst.only D
  go_wp2_with fail
  refine (sheet_any 97 0 _ oc).mono ?_; rintro e wc ⟨v, oc, rfl, hs, hb⟩; have hb := hb.bytes; rw [sheetA] at hb; have hd := hd.step hs (fun x => x); have hst := hst.trans (hs.only D)
  go_wp2_with fail
  refine (write_is hd hD wkr0 0 _ _ hb wk1e).mono ?_; rintro e wc ⟨v, oc, rfl, hs, rfl, hd⟩; have hst := hst.trans hs
  go_wp2_with fail
  refine (sheet_any 98 0 _ oc).mono ?_; rintro e wc ⟨v, oc, rfl, hs, hb⟩; have hb := hb.bytes; rw [sheetB] at hb; have hd := hd.step hs (fun x => x); have hst := hst.trans (hs.only D)
  go_wp2_with fail
  refine (write_is hd hD wkr1 0 _ _ hb wk2e).mono ?_; rintro e wc ⟨v, oc, rfl, hs, rfl, hd⟩; have hst := hst.trans hs
  go_wp2_with fail
  refine (waiting_any hd).mono ?_; rintro e w' ⟨rfl, rfl⟩; rw [wk2w]
  have hs := (Step.refl Nobody wc oc).alloc (.cells (ivs [5, 2]).toArray 3) (0, 0)
  have hdi := hd.step hs (fun x => x)
  have hli := ints_new3 wc oc [5, 2] (by decide)
  have hst := hst.trans (hs.only D)
  go_wp2_with fail
  refine (restart_is hdi hD wkr2 _ [5, 2] hli (by intro a ha; simp at ha; omega) wk3r).mono ?_; rintro e wc ⟨v, oc, rfl, hs, rfl, hd⟩; have hst := hst.trans hs
  go_wp2_with fail
  refine (read_is hd wkr3 0 wkpe).mono ?_; rintro e wc ⟨v, oc, rfl, hs, vb, rfl, hn⟩; have hst := (hst.trans (hs.only D)).nobody hDf
  obtain ⟨b, rfl, hbw, hbh⟩ : ∃ b, vb = .slice (some ⟨b, 0, none⟩) 512 512 ∧ Hid (wc.heap[b]? = some (.cells (bvs wkp).toArray 127 (0, 0))) ∧ Bytes wc oc (.slice (some ⟨b, 0, none⟩) 6 512) (wkp.take 6) := by
    rcases hn with ⟨_, h0⟩ | ⟨b, rfl, hl, hb, hh, ho⟩
    · have := wkpl; rw [h0] at this; cases this
    · refine ⟨b, rfl, hh, .inr ⟨b, 0, 512, by rw [List.length_take, wkpl]; rfl, by rw [List.length_take, wkpl]; decide, by simp [maxLen], by rw [ho], lt_of_block hh, ?_⟩⟩
      have := range_of_block hh 0 6
      rwa [List.drop_zero, bvs_take] at this
  have hcv := conv_string hbh
  rw [wkp6] at hcv
  have h511 : wc.cell? ⟨b, 511, none⟩ = some (.int .u8 0) := by
    rw [cell_of_block hbw.out 511, get_bvs, wkp511]; rfl
  clear hbh hbw hn hd hs
  go_wp2_with fail
  go_ret
  exact ⟨_, oc, rfl, hst, rfl⟩
end Go.Proofs.YtfgggkheadfiaaaR
/- The disk's law of the countdown: DiskCountdown. -/
namespace Go.Proofs.YtfgggkheadfiaaaR
open Go Go.RowKit
attribute [local go_sem ↓] Go.wp_at_zero Go.wp_at_succ

/-- Sheet, at numbers. -/
theorem sheet_int (x s : Int) (hx : 0 ≤ x ∧ x ≤ 255) (hs : 0 ≤ s ∧ s ≤ 255) (w : World) (o : Own) :
    Calls Try.prog 23 #[.int .u8 x, .int .u8 s] w (Ret Nobody w o fun v w' o' => NewB w w' o' v (sheetL (UInt8.ofNat x.toNat) (UInt8.ofNat s.toNat) 512)) := by
  have h := sheet_any (UInt8.ofNat x.toNat) (UInt8.ofNat s.toNat) w o
  have e1 : ((UInt8.ofNat x.toNat).toNat : Int) = x := by rw [UInt8.toNat_ofNat']; omega
  have e2 : ((UInt8.ofNat s.toNat).toNat : Int) = s := by rw [UInt8.toNat_ofNat']; omega
  rw [e1, e2] at h
  exact h

namespace DiskM
/-- A disk of two pages with power. -/
def two (d : DiskM) (left : Int) (most : Nat) : Prop := d.dead = false ∧ d.left = left ∧ d.pages.length = 2 ∧ d.row.length ≤ most
theorem two_bad {d : DiskM} {n : Int} {m : Nat} (h : d.two n m) (at' : Int) (l : List UInt8) (hb : at' < 0 ∨ 2 ≤ at' ∨ l.length ≠ 512) : d.write at' l = (d, 1) := by
  obtain ⟨h1, h2, h3, h4⟩ := h
  have ha : d.asked at' l.length = 1 := by
    unfold asked
    rw [h1, h3]
    simp only [Bool.false_eq_true, if_false]
    rw [if_pos (by omega)]
  simp [write, ha, counted]
theorem two_ok {d : DiskM} {n : Int} {m : Nat} (h : d.two n m) (hn : 0 < n) (at' : Int) (l : List UInt8) (hb : 0 ≤ at' ∧ at' < 2 ∧ l.length = 512) : ∃ d', d.write at' l = (d', 0) ∧ d'.two (n - 1) (m + 1) := by
  obtain ⟨h1, h2, h3, h4⟩ := h
  have ha : d.asked at' l.length = 0 := by
    unfold asked
    rw [h1, h3]
    simp only [Bool.false_eq_true, if_false]
    rw [if_neg (by omega)]
  have hc : d.counted 0 = ({ d with left := d.left - 1 }, 0) := by
    unfold counted
    rw [if_neg (by omega), if_neg (by omega)]
  refine ⟨{ d with row := d.row ++ [(at'.toNat, l)], left := d.left - 1 }, by simp [write, ha, hc], h1, ?_, h3, ?_⟩
  · show d.left - 1 = n - 1; omega
  · show (d.row ++ [(at'.toNat, l)]).length ≤ m + 1; rw [List.length_append]; simp; omega
theorem two_sync {d : DiskM} {n : Int} {m : Nat} (h : d.two n m) (hn : 0 < n) : ∃ d', d.sync = (d', 0) ∧ d'.two (n - 1) (m + 1) := by
  obtain ⟨h1, h2, h3, h4⟩ := h
  have ha : d.asked 0 512 = 0 := by
    unfold asked
    rw [h1, h3]
    simp
  have hc : d.counted 0 = ({ d with left := d.left - 1 }, 0) := by
    unfold counted
    rw [if_neg (by omega), if_neg (by omega)]
  refine ⟨({ d with left := d.left - 1 } : DiskM).done fun _ => 512, by simp [sync, ha, hc], h1, ?_, ?_, by simp [done]⟩
  · show d.left - 1 = n - 1; omega
  have : ∀ (row : List (Nat × List UInt8)) (k : Nat) (q : List (List UInt8)), ((row.zipIdx k).foldl (doneOne fun _ => 512) q).length = q.length := by
    intro row
    induction row with
    | nil => intro k q; rfl
    | cons x r ih => intro k q; rw [List.zipIdx_cons, List.foldl_cons, ih]; simp [doneOne]
  show (donePages _ d.pages d.row).length = 2
  rw [donePages, this, h3]
theorem two_end {d : DiskM} {m : Nat} (h : d.two 0 m) : d.sync = ({ d with dead := true }, 9) := by
  obtain ⟨h1, h2, h3, h4⟩ := h
  have ha : d.asked 0 512 = 0 := by
    unfold asked
    rw [h1, h3]
    simp
  have hc : d.counted 0 = ({ d with dead := true }, 9) := by
    unfold counted
    rw [if_neg (by omega), if_pos h2]
  simp [sync, ha, hc]
theorem dead_read {d : DiskM} (h : d.dead = true) (at' : Int) : d.read at' = ([], 9) := by
  have ha : d.asked at' 512 = 9 := by unfold asked; rw [h]; rfl
  simp [read, ha]
theorem dead_write {d : DiskM} (h : d.dead = true) (at' : Int) (l : List UInt8) : d.write at' l = (d, 9) := by
  have ha : d.asked at' l.length = 9 := by unfold asked; rw [h]; rfl
  simp [write, ha, counted]
theorem dead_sync {d : DiskM} (h : d.dead = true) : d.sync = (d, 9) := by
  have ha : d.asked 0 512 = 9 := by unfold asked; rw [h]; rfl
  simp [sync, ha, counted]
end DiskM

set_option maxRecDepth 100000 in
set_option maxHeartbeats 3200000 in
theorem countdown_walk (a0 a1 : Int) (h0 : 0 ≤ a0 ∧ a0 ≤ 255) (h1 : 0 ≤ a1 ∧ a1 ≤ 18446744073709551615) (w : World) (o : Own) : Calls Try.prog 4 #[.int .u8 a0, .int .u64 a1] w (Ret Nobody w o fun v _ _ => v = .bool true) := by
  obtain ⟨k, hk⟩ : ∃ k : Nat, a0 % 40 = (k : Int) := ⟨(a0 % 40).toNat, by omega⟩
  have hk40 : k < 40 := by omega
  have hk0 : (k : Int) ≤ 9223372036854775807 := by omega
  have h01 := h0.1
  have h02 := h0.2
  have h11 := h1.1
  have h12 := h1.2
  clear h0 h1
  obtain ⟨D, hD0, hDf⟩ := fresh_tag o w.heap.size 0
  have hD : D ≠ 0 := by omega
  have hN : ¬ Only D 0 := fun h => hD h.symm
  clear hD0
  go_enter Try.func4, Try.ntmps4
  go_wp2_with fail
  refine (new_is (o := o) 2 D (by omega) (by omega) wk0n).mono ?_; rintro e wc ⟨v, oc, rfl, hst, p, hp, rfl, hd⟩; have hst := hst.only D
  go_wp2_with fail
  refine (fuse_any hd (k : Int) hk0).mono ?_; rintro e wc ⟨v, oc, rfl, hs, rfl, hd⟩; have hst := hst.trans hs
  have hfu : (wk0.fuse (k : Int)).two k 0 := by
    have e0 : wk0.dead = false ∧ wk0.pages.length = 2 ∧ wk0.row.length = 0 := by decide +kernel
    have e1 : wk0.fuse (k : Int) = { wk0 with left := max (-1) (k : Int) } := by simp [DiskM.fuse, e0.1]
    rw [e1]
    exact ⟨e0.1, by show max (-1) (k : Int) = k; omega, e0.2.1, by show wk0.row.length ≤ 0; omega⟩
  generalize wk0.fuse (k : Int) = df at *
  go_wp2_with fail
  go_loopw [8] (fun i wr => ∃ (j : Nat) (oj : Own) (dj : DiskM), j ≤ k ∧ i = .int .i64 j ∧ DiskAt wr oj D p dj ∧ Step (Only D) w o wr oj ∧ dj.two ((k : Int) - j) j)
    (fun i _ => k - (intOf i).toNat)
  case atStart => exact ⟨0, oc, df, Nat.zero_le _, rfl, hd, hst, by simpa using hfu⟩
  case round =>
    clear hd hst hfu hs
    obtain ⟨j, oj, dj, hj, rfl, hd, hst, h2'⟩ := hrel
    have h2 : dj.two ((k : Int) - j) j := h2'
    clear h2'
    by_cases hlt : j < k
    · have hrow : dj.row.length ≤ 1000000 := by have := h2.2.2.2; omega
      have hdead : dj.dead = false := h2.1
      have hpos : (0 : Int) < (k : Int) - j := by omega
      have hb1 := DiskM.two_bad h2 2 (sheetL 1 0 512) (by omega)
      have hb2 := DiskM.two_bad h2 0 [] (by simp)
      obtain ⟨ds, hds, hts⟩ := DiskM.two_sync h2 hpos
      have hdw := DiskM.two_ok h2 hpos 1
      have HT := hidden h2
      have HB1 := hidden hb1
      have HB2 := hidden hb2
      have HDS := hidden hds
      have HDW := hidden hdw
      have HTS := hidden hts
      have HDE := hidden hdead
      clear h2 hb1 hb2 hds hdw hts hdead
      go_wp2_with fail
      refine (sheet_any 1 0 _ oj).mono ?_; rintro e wc ⟨v, oc, rfl, hs, hb⟩; have hb := hb.bytes; have hd := hd.step hs (fun x => x); have hst := hst.trans (hs.only D)
      go_wp2_with fail
      refine (write_is hd hD hrow 2 _ _ hb HB1.out).mono ?_; rintro e wc ⟨v, oc, rfl, hs, rfl, hd⟩; have hst := hst.trans hs
      go_wp2_with fail
      refine (write_is hd hD hrow 0 _ _ (Bytes.nil _ _) HB2.out).mono ?_; rintro e wc ⟨v, oc, rfl, hs, rfl, hd⟩; have hst := hst.trans hs
      go_wp2_with fail
      refine (dead_any hd).mono ?_; rintro e w' ⟨rfl, rfl⟩; rw [HDE.out]
      go_wp2_with fail
      · refine (sync_is hd hrow HDS.out).mono ?_; rintro e wc ⟨v, oc, rfl, hs, rfl, hd⟩; have hst := hst.trans hs
        go_wp2_with fail
        go_roundw
        case rel => exact ⟨j + 1, oc, ds, by omega, by go_num, hd, hst, by have := HTS.out; rwa [show (k : Int) - ((j + 1 : Nat) : Int) = (k : Int) - j - 1 from by omega]⟩
        case measure => simp [intOf]; omega
      · refine (sheet_int _ 0 (by omega) (by omega) _ oc).mono ?_; rintro e wc ⟨v, oc, rfl, hs, hb⟩; have hb := hb.bytes; have hd := hd.step hs (fun x => x); have hst := hst.trans (hs.only D)
        obtain ⟨dw, hdw, htw⟩ := HDW.out _ ⟨by omega, by omega, length_sheetL _ _ _⟩
        have HDW2 := hidden hdw
        have HTW := hidden htw
        clear hdw htw
        go_wp2_with fail
        refine (write_is hd hD hrow 1 _ _ hb HDW2.out).mono ?_; rintro e wc ⟨v, oc, rfl, hs, rfl, hd⟩; have hst := hst.trans hs
        go_wp2_with fail
        go_roundw
        case rel => exact ⟨j + 1, oc, dw, by omega, by go_num, hd, hst, by have := HTW.out; rwa [show (k : Int) - ((j + 1 : Nat) : Int) = (k : Int) - j - 1 from by omega]⟩
        case measure => simp [intOf]; omega
    · have hjk : j = k := by omega
      subst hjk
      rw [Int.sub_self] at h2
      have hrow : dj.row.length ≤ 1000000 := by have := h2.2.2.2; omega
      have hend := DiskM.two_end h2
      have HE := hidden hend
      have hdead : ({ dj with dead := true } : DiskM).dead = true := rfl
      have hlen : ({ dj with dead := true } : DiskM).row.length = dj.row.length := rfl
      have hrow2 : ({ dj with dead := true } : DiskM).row.length ≤ 1000000 := hrow
      generalize hde : ({ dj with dead := true } : DiskM) = de at *
      have HDD := hidden hdead
      have HLN := hidden hlen
      clear hend hdead hlen hde h2
      go_wp2_with fail
      refine (waiting_any hd).mono ?_; rintro e w' ⟨rfl, rfl⟩
      go_wp2_with fail
      refine (sync_is hd hrow HE.out).mono ?_; rintro e wc ⟨v, oc, rfl, hs, rfl, hd⟩; have hst := hst.trans hs
      go_wp2_with fail
      refine (read_is hd hrow2 0 (DiskM.dead_read HDD.out 0)).mono ?_; rintro e wc ⟨v, oc, rfl, hs, vb, rfl, hn⟩; have hst := hst.trans (hs.only D); obtain rfl := np_nil hn; have hd := hd.step hs (fun x => x)
      go_wp2_with fail
      refine (dead_any hd).mono ?_; rintro e w' ⟨rfl, rfl⟩; rw [HDD.out]
      go_wp2_with fail
      refine (waiting_any hd).mono ?_; rintro e w' ⟨rfl, rfl⟩; rw [HLN.out]
      go_wp2_with fail
      refine (sheet_any 1 0 _ oc).mono ?_; rintro e wc ⟨v, oc, rfl, hs, hb⟩; have hb := hb.bytes; have hd := hd.step hs (fun x => x); have hst := hst.trans (hs.only D)
      go_wp2_with fail
      refine (write_is hd hD hrow2 0 _ _ hb (DiskM.dead_write HDD.out 0 _)).mono ?_; rintro e wc ⟨v, oc, rfl, hs, rfl, hd⟩; have hst := hst.trans hs
      go_wp2_with fail
      refine (wakes_any _ oc).mono ?_; rintro e wc ⟨v, oc, rfl, hs, rfl⟩; have hst := hst.trans (hs.only D)
      go_wp2_with fail
      go_ret
      exact ⟨_, oc, rfl, hst.nobody hDf, rfl⟩

end Go.Proofs.YtfgggkheadfiaaaR
/- From a law's walk to its row: what was there when the call began reads as it read. Over any program. -/
namespace Go.Proofs.YtfgggkheadfiaaaR
open Go Go.RowKit Go.ChangeShapes Go.WideShapes Go.ChangeAt

theorem trodAll_below {H : Type} {enc : TypeId × Value → H} {P : Program} (hl : laidOutB P = true) {W W' : World} (hb : Below W.heap.size W W') :
    ∀ (ts : List TypeId) (vs : List Value) (ds : List (DataW H)) (ps : List MemPlace), (ts.all fun t => P.readableRec t && decide (t < P.types.size)) = true →
      DataW.TrodAll enc P W 0 (fun _ => true) true ts vs ds ps → (∀ x ∈ ps, x.block < W.heap.size) → DataW.TrodAll enc P W' 0 (fun b => decide (b < W.heap.size)) true ts vs ds ps
  | [], [], [], _, _, h, _ => h
  | t :: ts, v :: vs, d :: ds, ps, hts, h, hlt => by
    obtain ⟨p, q, h1, h2, rfl⟩ := h
    simp only [List.all_cons, Bool.and_eq_true, decide_eq_true_eq] at hts
    exact ⟨p, q, Below.trod hl hts.1.1 hts.1.2 h1 hb (fun x hx => hlt x (List.mem_append_left _ hx)), trodAll_below hl hb ts vs ds q hts.2 h2 (fun x hx => hlt x (List.mem_append_right _ hx)), rfl⟩
  | [], _ :: _, _, _, _, h, _ => h.elim
  | [], [], _ :: _, _, _, h, _ => h.elim
  | _ :: _, [], _, _, _, h, _ => h.elim
  | _ :: _, _ :: _, [], _, _, h, _ => h.elim

/-- The post of a law: it returned true, and nothing that was there has turned. -/
theorem law_post {H : Type} {enc : TypeId × Value → H} {P : Program} {f : Func} {s : ChangeSpec} {W W' : World} {args : Array Value} {ds gs : List (DataW H)} {before : List MemPlace} {tb : TypeId}
    (hl : laidOutB P = true) (hts : (f.params.toList.all fun t => P.readableRec t && decide (t < P.types.size)) = true)
    (hr : f.resultTypes = #[tb]) (hu : P.underlying tb = some .bool)
    (hW : DataW.Whole enc P f.params.toList s.vars false W args.toList ds gs before) (hgs : gs = []) (hvars : s.vars = [])
    (e1 : (s.fn H ds).results = [.lit (.bool true)]) (e2 : (s.fn H ds).args = ds) (e3 : (s.fn H ds).vars = [])
    (hb : Below W.heap.size W W') : s.post enc P f false true false false W args (.bool true) W' := by
  subst hgs
  have hW' := hW
  obtain ⟨p, q, hA, hV, hpq, _, _⟩ := hW
  have hA' : DataW.TrodAll enc P W 0 (fun _ => true) true f.params.toList args.toList ds p := hA
  have hq : q = [] := by
    rw [hvars] at hV
    exact hV
  subst hq
  have hpq' : before = p := by simpa using hpq
  subst hpq'
  refine ⟨ds, [], before, [], before, [], hW', ?_, ?_, ?_, hb.frame _, fun h => by cases h⟩
  · rw [List.append_nil, e1, hr]
    exact trodAll_cons_mk (shut_bool hu true) trodAll_mk0
  · rw [List.append_nil, e2]
    exact trodAll_below hl hb _ _ _ _ hts hA' (fun x hx => by simpa using hW'.lt x hx)
  · rw [List.append_nil, e3, hvars]; rfl
end Go.Proofs.YtfgggkheadfiaaaR
/- What a law's argument reads as is laid out: slices of numbers, of structs. Over any program. -/
namespace Go.Proofs.YtfgggkheadfiaaaR
open Go Go.RowKit Go.Deep

theorem list_choose {α : Type} (R : Nat → α → Prop) : ∀ n : Nat, (∀ i, i < n → ∃ x, R i x) → ∃ l : List α, l.length = n ∧ ∀ i (h : i < l.length), R i l[i]
  | 0, _ => ⟨[], rfl, fun i h => by simp at h⟩
  | n + 1, hx => by
    obtain ⟨l, hl, hr⟩ := list_choose R n (fun i hi => hx i (by omega))
    obtain ⟨x, hxx⟩ := hx n (by omega)
    refine ⟨l ++ [x], by simp [hl], fun i h => ?_⟩
    by_cases hi : i < l.length
    · rw [List.getElem_append_left hi]; exact hr i hi
    · have : i = n := by simp at h; omega
      subst this
      rw [List.getElem_append_right (by omega)]
      simpa [hl] using hxx

section
variable {H : Type} {enc : TypeId × Value → H} {P : Program} {W : World}

theorem read_slice {t e : TypeId} {fuel : Nat} {v : Value} {x : DataW H × List MemPlace} (ht : P.underlying t = some (.slice e)) (hpos : 0 < P.cellsOf e)
    (h : DataW.trod enc P W 0 (fun _ => true) true fuel t [v] = some x) :
    (∃ a c, v = .slice a 0 c) ∨ ∃ b off len cap, v = .slice (some ⟨b, off, none⟩) len cap ∧ 0 < len ∧ len ≤ cap ∧ cap ≤ maxLen ∧ b < W.heap.size ∧
      ∀ i, i < cap → ∃ cs', cs'.length = P.cellsOf e ∧ W.rangeAt b (off + i * P.cellsOf e) cs' ∧ ∃ n y, DataW.trod enc P W 0 (fun _ => true) true n e cs' = some y := by
  rcases open_slice ht h with ⟨h0, _⟩ | ⟨a, len, cap, m, n, D, Pl, h0, _, hlc, hcm, hm, _, hel⟩
  · simp only [List.cons.injEq, and_true] at h0
    exact .inl ⟨_, _, h0⟩
  · simp only [List.cons.injEq, and_true] at h0
    simp only [if_true] at hm
    subst hm
    by_cases hz : len = 0
    · subst hz; exact .inl ⟨_, _, h0⟩
    · have hc0 : 0 < m := by omega
      have hcell : ∀ i, i < m → ∃ cs', cs'.length = P.cellsOf e ∧ (∀ j, j < P.cellsOf e → W.cell? ((a.add (i * P.cellsOf e)).add j) = cs'[j]?) ∧ ∃ n y, DataW.trod enc P W 0 (fun _ => true) true n e cs' = some y := by
        intro i hi
        obtain ⟨cs', h1, h2⟩ := hel i hi
        obtain ⟨_, h3, h4⟩ := World.cells?_some h1
        exact ⟨cs', h3, h4, _, _, h2⟩
      obtain ⟨cs0, h3, h4, _⟩ := hcell 0 hc0
      have h5 := h4 0 hpos
      have ha0 : ((a.add (0 * P.cellsOf e)).add 0) = a := by simp [Addr.add]
      rw [ha0, List.getElem?_eq_getElem (by omega)] at h5
      have hsp : a.spot = none := by
        cases hs : a.spot with
        | none => rfl
        | some s =>
          exfalso
          unfold World.cell? at h5
          cases hh : W.heap[a.block]? with
          | none => simp [hh] at h5
          | some ob => cases ob <;> simp [hh, hs] at h5
      have hblk := World.block_lt_of_cell? W _ h5
      obtain ⟨b, off, sp⟩ := a
      simp only at hsp hblk
      subst hsp
      refine .inr ⟨b, off, len, m, h0, by omega, hlc, hcm, hblk, fun i hi => ?_⟩
      obtain ⟨cs', k1, k2, k3⟩ := hcell i hi
      refine ⟨cs', k1, fun j w hj => ?_, k3⟩
      have hj' : j < P.cellsOf e := by
        rw [← k1]; exact (List.getElem?_eq_some_iff.1 hj).1
      have := k2 j hj'
      rw [Addr.add_mid, Addr.add_mid, hj] at this
      exact this

theorem read_nums {t e : TypeId} {k : IntKind} {fuel : Nat} {v : Value} {x : DataW H × List MemPlace} (ht : P.underlying t = some (.slice e)) (he : P.underlying e = some (.int k)) (hc : P.cellsOf e = 1)
    (h : DataW.trod enc P W 0 (fun _ => true) true fuel t [v] = some x) :
    ∃ l : List Int, Slc W (fun _ => (0, 0)) v l.length (l.map (Value.int k)) ∧ ∀ a ∈ l, (Lit.int k a).wf = true := by
  rcases read_slice ht (by omega) h with ⟨a, c, rfl⟩ | ⟨b, off, len, cap, rfl, h0, hlc, hcm, hb, hel⟩
  · exact ⟨[], .inl ⟨⟨a, c, rfl⟩, rfl, rfl⟩, by simp⟩
  · obtain ⟨l, hl, hr⟩ := list_choose (fun i (n : Int) => W.cell? ⟨b, off + i, none⟩ = some (.int k n) ∧ (Lit.int k n).wf = true) len (fun i hi => by
      obtain ⟨cs', k1, k2, n, y, k3⟩ := hel i (by omega)
      obtain ⟨a, rfl, _, hw⟩ := DataW.trod_int he k3
      refine ⟨a, ?_, hw⟩
      have := k2 0 _ rfl
      rwa [hc, Nat.mul_one, Nat.add_zero] at this)
    refine ⟨l, .inr ⟨b, off, cap, by rw [hl], by omega, hcm, rfl, hb, fun j w hj => ?_⟩, fun a ha => ?_⟩
    · rw [List.getElem?_map] at hj
      cases hjl : l[j]? with
      | none => rw [hjl] at hj; cases hj
      | some a =>
        obtain ⟨hlt, hja⟩ := List.getElem?_eq_some_iff.1 hjl
        rw [hjl] at hj
        simp only [Option.map_some, Option.some.injEq] at hj
        rw [← hj, ← hja]
        exact (hr j hlt).1
    · obtain ⟨i, hi, rfl⟩ := List.mem_iff_getElem.1 ha
      exact (hr i hi).2
end
end Go.Proofs.YtfgggkheadfiaaaR
/- The acts of layer 7's laws: how they are read, what they do to a disk, 'Many'. -/
namespace Go.Proofs.YtfgggkheadfiaaaR
open Go Go.RowKit
attribute [local go_sem ↓] Go.wp_at_zero Go.wp_at_succ

structure Act7 where
  do_ : Int
  at' : Int
  b : Int
  st : Int
  fv : Value
  fates : List Int
namespace Act7
def cells (a : Act7) : List Value := [.int .u8 a.do_, .int .i64 a.at', .int .u8 a.b, .int .u8 a.st, a.fv]
def ok (a : Act7) : Prop := (0 ≤ a.do_ ∧ a.do_ ≤ 255) ∧ (-9223372036854775808 ≤ a.at' ∧ a.at' ≤ 9223372036854775807) ∧ (0 ≤ a.b ∧ a.b ≤ 255) ∧ (0 ≤ a.st ∧ a.st ≤ 255) ∧ ∀ x ∈ a.fates, -9223372036854775808 ≤ x ∧ x ≤ 9223372036854775807
def sheet (a : Act7) : List UInt8 := sheetL (UInt8.ofNat a.b.toNat) (UInt8.ofNat a.st.toNat) 512
end Act7

/-- v reads as the acts l. -/
def Acts7 (w : World) (o : Own) (v : Value) (l : List Act7) : Prop :=
  ((∃ a c, v = .slice a 0 c) ∧ l = []) ∨ ∃ b off cap, v = .slice (some ⟨b, off, none⟩) l.length cap ∧ l.length ≤ cap ∧ cap ≤ maxLen ∧ (o b).1 = 0 ∧ b < w.heap.size ∧
    ∀ i (h : i < l.length), w.rangeAt b (off + i * 5) l[i].cells ∧ Ints w o l[i].fv l[i].fates ∧ l[i].ok
theorem Acts7.step {T : Nat → Prop} {w w' : World} {o o' : Own} {v : Value} {l : List Act7} (h : Acts7 w o v l) (s : Step T w o w' o') (hT : ¬ T 0) : Acts7 w' o' v l := by
  rcases h with h | ⟨b, off, cap, hv, hl, hm, ho, hb, hr⟩
  · exact .inl h
  · exact .inr ⟨b, off, cap, hv, hl, hm, by rw [s.own b hb]; exact ho, Nat.lt_of_lt_of_le hb s.size, fun i hi => ⟨range_same (hr i hi).1 (s.block b hb (by rw [ho]; exact hT)), Slc.step (hr i hi).2.1 s hT, (hr i hi).2.2⟩⟩
theorem Acts7.form {w : World} {o : Own} {v : Value} {l : List Act7} (h : Acts7 w o v l) : ∃ a c, v = .slice a l.length c := by
  rcases h with ⟨⟨a, c, rfl⟩, rfl⟩ | ⟨b, off, cap, rfl, _⟩ <;> exact ⟨_, _, rfl⟩
theorem Acts7.at {w : World} {o : Own} {a : Option Addr} {n c : Nat} {l : List Act7} (h : Acts7 w o (.slice a n c) l) (i : Nat) (hi : i < l.length) :
    ∃ b off, a = some ⟨b, off, none⟩ ∧ n = l.length ∧ (o b).1 = 0 ∧ b < w.heap.size ∧ w.rangeAt b (off + i * 5) l[i].cells ∧ Ints w o l[i].fv l[i].fates ∧ l[i].ok := by
  rcases h with ⟨_, rfl⟩ | ⟨b, off, cap, hv, hl, hm, ho, hb, hr⟩
  · simp at hi
  · simp only [Value.slice.injEq] at hv
    obtain ⟨rfl, rfl, rfl⟩ := hv
    exact ⟨b, off, rfl, rfl, ho, hb, hr i hi⟩

section
variable {H : Type} {enc : TypeId × Value → H} {W : World}
theorem read_ints {fuel : Nat} {v : Value} {x : DataW H × List MemPlace} (h : DataW.trod enc Try.prog W 0 (fun _ => true) true fuel 34 [v] = some x) :
    ∃ l : List Int, Ints W (fun _ => (0, 0)) v l ∧ ∀ a ∈ l, -9223372036854775808 ≤ a ∧ a ≤ 9223372036854775807 := by
  obtain ⟨l, h1, h2⟩ := read_nums Try.underlying34 Try.underlying3 (by kernel_rfl) h
  exact ⟨l, h1, fun a ha => Go.bounds_i64 (h2 a ha)⟩

set_option maxRecDepth 100000 in
theorem read_acts7 {fuel : Nat} {v : Value} {x : DataW H × List MemPlace} (h : DataW.trod enc Try.prog W 0 (fun _ => true) true fuel 39 [v] = some x) :
    ∃ l : List Act7, Acts7 W (fun _ => (0, 0)) v l := by
  have c43 : Try.prog.cellsOf 43 = 5 := by kernel_rfl
  have c5 : Try.prog.cellsOf 5 = 1 := by kernel_rfl
  have c3 : Try.prog.cellsOf 3 = 1 := by kernel_rfl
  have c34 : Try.prog.cellsOf 34 = 1 := by kernel_rfl
  rcases read_slice Try.underlying39 (by omega) h with ⟨a, c, rfl⟩ | ⟨b, off, len, cap, rfl, h0, hlc, hcm, hb, hel⟩
  · exact ⟨[], .inl ⟨⟨a, c, rfl⟩, rfl⟩⟩
  · obtain ⟨l, hl, hr⟩ := list_choose (fun i (m : Act7) => W.rangeAt b (off + i * 5) m.cells ∧ Ints W (fun _ => (0, 0)) m.fv m.fates ∧ m.ok) len (fun i hi => by
      obtain ⟨cs', k1, k2, n, y, k3⟩ := hel i (by omega)
      rw [c43] at k1 k2
      obtain ⟨xs, n', _, _, _, hxs, hf⟩ := DataW.trod_struct Try.underlying43 k3
      match cs', k1 with
      | [v0, v1, v2, v3, v4], _ =>
        have f0 : DataW.trod enc Try.prog W 0 (fun _ => true) true n' 5 (([v0, v1, v2, v3, v4].drop 0).take (Try.prog.cellsOf 5)) = xs[0]? := hf 0 _ rfl
        have f1 : DataW.trod enc Try.prog W 0 (fun _ => true) true n' 3 (([v0, v1, v2, v3, v4].drop 1).take (Try.prog.cellsOf 3)) = xs[1]? := hf 1 _ rfl
        have f2 : DataW.trod enc Try.prog W 0 (fun _ => true) true n' 5 (([v0, v1, v2, v3, v4].drop 2).take (Try.prog.cellsOf 5)) = xs[2]? := hf 2 _ rfl
        have f3 : DataW.trod enc Try.prog W 0 (fun _ => true) true n' 5 (([v0, v1, v2, v3, v4].drop 3).take (Try.prog.cellsOf 5)) = xs[3]? := hf 3 _ rfl
        have f4 : DataW.trod enc Try.prog W 0 (fun _ => true) true n' 34 (([v0, v1, v2, v3, v4].drop 4).take (Try.prog.cellsOf 34)) = xs[4]? := hf 4 _ rfl
        have hsz : xs.length = 5 := hxs
        simp only [c5, c3, c34, List.drop_zero, List.take_succ_cons, List.take_zero, List.drop_succ_cons] at f0 f1 f2 f3 f4
        rw [List.getElem?_eq_getElem (by omega)] at f0 f1 f2 f3 f4
        obtain ⟨a0, e0, _, w0⟩ := DataW.trod_int Try.underlying5 f0
        obtain ⟨a1, e1, _, w1⟩ := DataW.trod_int Try.underlying3 f1
        obtain ⟨a2, e2, _, w2⟩ := DataW.trod_int Try.underlying5 f2
        obtain ⟨a3, e3, _, w3⟩ := DataW.trod_int Try.underlying5 f3
        obtain ⟨fs, e4, w4⟩ := read_ints f4
        simp only [List.cons.injEq, and_true] at e0 e1 e2 e3
        subst e0 e1 e2 e3
        exact ⟨⟨a0, a1, a2, a3, v4, fs⟩, k2, e4, Go.bounds_u8 w0, Go.bounds_i64 w1, Go.bounds_u8 w2, Go.bounds_u8 w3, w4⟩)
    exact ⟨l, .inr ⟨b, off, cap, by rw [hl], by omega, hcm, rfl, hb, hr⟩⟩
end

theorem ret_int {k : IntKind} {a b : Int} (h : a = b) : Ending.returned (.int k a) = .returned (.int k b) := by rw [h]
/-- Above 0 where acts are more than a law looks at. -/
def many7 (l : List Act7) : Int := if (l.take 81).any (fun a => decide (60 < a.fates.length)) then 1 else max 0 ((l.length : Int) - 80)

set_option maxRecDepth 100000 in
set_option maxHeartbeats 1600000 in
theorem many7_any {w : World} {o : Own} {v : Value} {l : List Act7} (h : Acts7 w o v l) : Calls Try.prog 30 #[v] w fun e w' => e = .returned (.int .i64 (many7 l)) ∧ w = w' := by
  obtain ⟨a, c, rfl⟩ := h.form
  have hlm : (l.length : Int) ≤ 9223372036854775807 := by
    rcases h with ⟨_, rfl⟩ | ⟨b, off, cap, hv, hl, hm, _⟩
    · simp
    · unfold maxLen at hm; omega
  go_enter Try.func30, Try.ntmps30
  go_wp2_with fail
  go_loop [3] (fun i => ∃ k : Nat, k ≤ l.length ∧ k ≤ 81 ∧ i = .int .i64 k ∧ (l.take k).any (fun a => decide (60 < a.fates.length)) = false) (fun i => 81 - (intOf i).toNat)
  case atStart => exact ⟨0, by omega, by omega, rfl, rfl⟩
  case round =>
    obtain ⟨k, hk, hk81, rfl, hany⟩ := hrel
    by_cases hlt : k < l.length
    · by_cases h81 : k < 81
      · obtain ⟨b, off, rfl, _, ho, hb, hr, hi, hok⟩ := h.at k hlt
        have c4 : w.cell? ⟨b, off + k * 5 + 4, none⟩ = some l[k].fv := hr 4 _ rfl
        obtain ⟨fa, fc, hfv⟩ := slc_form hi
        have hsn : (l.take (k + 1)).any (fun a => decide (60 < a.fates.length)) = decide (60 < l[k].fates.length) := by
          rw [List.take_succ_eq_append_getElem hlt, List.any_append, hany]; simp
        rw [hfv] at c4
        have hanyH := hidden hany
        have hsnH := hidden hsn
        clear hany hsn hr hi hok hfv
        by_cases hbig : 60 < l[k].fates.length
        · have hE : many7 l = 1 := by
            unfold many7
            rw [if_pos]
            refine List.any_eq_true.2 ⟨l[k], ?_, by simpa using hbig⟩
            exact List.mem_take_iff_getElem.2 ⟨k, by omega, rfl⟩
          have hbigI : (60 : Int) < (l[k].fates.length : Int) := by omega
          have hEH := hidden hE
          clear hE
          go_wp2
          go_ret
          exact ⟨by rw [hEH.out]; rfl, rfl⟩
        · have hbigI : ¬ (60 : Int) < (l[k].fates.length : Int) := by omega
          go_wp2
          go_round
          case rel => exact ⟨k + 1, by omega, by omega, by go_num, by rw [hsnH.out]; simpa using hbig⟩
          case measure => simp [intOf]; omega
      · have hk' : k = 81 := by omega
        subst hk'
        have hE : many7 l = max 0 ((l.length : Int) - 80) := by unfold many7; rw [if_neg (by rw [hany]; simp)]
        rw [show max 0 ((l.length : Int) - 80) = (l.length : Int) - 80 from by omega] at hE
        have hEH := hidden hE
        clear hE hany
        go_wp2
        all_goals (go_ret; refine ⟨?_, rfl⟩; rw [hEH.out]; exact ret_int (by omega))
    · have hk' : k = l.length := by omega
      subst hk'
      have hE : many7 l = max 0 ((l.length : Int) - 80) := by
        unfold many7
        rw [if_neg]
        rw [List.take_length] at hany
        rw [List.take_of_length_le hk81, hany]; simp
      by_cases hpos : (0 : Int) ≤ (l.length : Int) - 80
      · rw [show max 0 ((l.length : Int) - 80) = (l.length : Int) - 80 from by omega] at hE
        have hEH := hidden hE
        clear hE hany
        go_wp2
        all_goals (go_ret; refine ⟨?_, rfl⟩; rw [hEH.out]; exact ret_int (by omega))
      · rw [show max 0 ((l.length : Int) - 80) = 0 from by omega] at hE
        have hEH := hidden hE
        clear hE hany
        go_wp2
        all_goals (go_ret; refine ⟨?_, rfl⟩; rw [hEH.out]; exact ret_int (by omega))
end Go.Proofs.YtfgggkheadfiaaaR
/- Contract of the laws' own 'does': an act on a disk. -/
namespace Go.Proofs.YtfgggkheadfiaaaR
open Go Go.RowKit
attribute [local go_sem ↓] Go.wp_at_zero Go.wp_at_succ

def DiskM.does7 (d : DiskM) (a : Act7) : DiskM × Int :=
  if a.do_ % 6 = 0 then d.write a.at' a.sheet
  else if a.do_ % 6 = 1 then d.sync
  else if a.do_ % 6 = 2 then (d.fuse a.at', 0)
  else if a.do_ % 6 = 3 then (d.kill, 0)
  else if a.do_ % 6 = 4 then (d.restart a.fates, 0)
  else d.write a.at' (List.replicate a.b.toNat 0)

theorem zeros_bvs (n : Nat) : (List.replicate n [Value.int .u8 0]).flatten = bvs (List.replicate n 0) := by
  induction n with
  | zero => rfl
  | succ n ih => rw [List.replicate_succ, List.replicate_succ, List.flatten_cons, ih]; rfl

/-- New zeros. -/
theorem bytes_zeros (w : World) (o : Own) (n : Nat) (hn : n ≤ 9223372036854775807) : Bytes (w.alloc (.cells (bvs (List.replicate n 0)).toArray 5)) (tagAt o w.heap.size (0, 0)) (.slice (some ⟨w.heap.size, 0, none⟩) n n) (List.replicate n 0) :=
  .inr ⟨w.heap.size, 0, n, by rw [List.length_replicate], by simp, by simp only [maxLen]; exact hn, by rw [tagAt_same], by simp, range_whole (heap_alloc_new w _)⟩

set_option maxRecDepth 100000 in
set_option maxHeartbeats 3200000 in
theorem does7_any {w : World} {o : Own} {D p : Nat} {d : DiskM} (h : DiskAt w o D p d) (hD : D ≠ 0) (hrow : d.row.length ≤ 1000000) (a : Act7) (hok : a.ok) (hi : Ints w o a.fv a.fates) :
    Calls Try.prog 31 #[.pointer (some ⟨p, 0, none⟩), .agg a.cells.toArray] w (Ret (Only D) w o fun v w' o' => v = .int .i64 (d.does7 a).2 ∧ DiskAt w' o' D p (d.does7 a).1) := by
  obtain ⟨⟨x0, x1⟩, ⟨y0, y1⟩, ⟨b0, b1⟩, ⟨s0, s1⟩, hfw⟩ := hok
  have hN : ¬ Only D 0 := fun h => hD h.symm
  have hs0 : Step Nobody w o (w.alloc (.cells a.cells.toArray 43)) (tagAt o w.heap.size (0, 0)) := (Step.refl _ w o).alloc _ _
  have hd := h.step hs0 (fun x => x)
  have hi2 : Ints (w.alloc (.cells a.cells.toArray 43)) (tagAt o w.heap.size (0, 0)) a.fv a.fates := hi.step hs0 (fun x => x)
  have hbx : (w.alloc (.cells a.cells.toArray 43)).heap[w.heap.size]? = some (.cells a.cells.toArray 43 (0, 0)) := heap_alloc_new w _
  have hbt : tagAt o w.heap.size (0, 0) w.heap.size = (0, 0) := tagAt_same _ _ _
  have hbl := lt_of_block hbx
  have hst := hs0.only D
  have hsh : a.sheet = sheetL (UInt8.ofNat a.b.toNat) (UInt8.ofNat a.st.toNat) 512 := rfl
  have hdo : Hid (∀ r, a.do_ % 6 = r → d.does7 a = if r = 0 then d.write a.at' a.sheet else if r = 1 then d.sync else if r = 2 then (d.fuse a.at', 0) else if r = 3 then (d.kill, 0) else if r = 4 then (d.restart a.fates, 0) else d.write a.at' (List.replicate a.b.toNat 0)) :=
    fun r hr => by subst hr; rfl
  obtain ⟨ra, rc, hfv⟩ := slc_form hi
  have hcl : a.cells = [.int .u8 a.do_, .int .i64 a.at', .int .u8 a.b, .int .u8 a.st, .slice ra a.fates.length rc] := by rw [← hfv]; rfl
  rw [hcl] at hs0 hd hi2 hbx hbl hst ⊢
  rw [hfv] at hi2
  have hshH := hidden hsh
  have hfwH := hidden hfw
  clear hcl hfv hi hsh hfw hs0 h
  generalize d.does7 a = dd at *
  generalize a.sheet = sh at *
  obtain ⟨x, y, b, s, fv, fs⟩ := a
  simp only at *
  have c1 := cell_of_block hbx 1
  have c2 := cell_of_block hbx 2
  have c3 := cell_of_block hbx 3
  simp only [List.getElem?_cons_succ, List.getElem?_cons_zero] at c1 c2 c3
  have hr : x % 6 = 0 ∨ x % 6 = 1 ∨ x % 6 = 2 ∨ x % 6 = 3 ∨ x % 6 = 4 ∨ x % 6 = 5 := by omega
  rcases hr with hr | hr | hr | hr | hr | hr
  · obtain rfl := hdo.out _ hr
    simp only [if_true]
    go_enter Try.func31, Try.ntmps31
    go_wp2_with fail
    generalize hW0 : w.alloc (.cells #[.int .u8 x, .int .i64 y, .int .u8 b, .int .u8 s, .slice ra fs.length rc] 43) = W0 at *
    have hdr : Step Nobody W0 (tagAt o w.heap.size (0, 0)) W0.drew (tagAt o w.heap.size (0, 0)) := (Step.refl _ _ _).drew
    have hd := hd.step hdr (fun x => x)
    have hst := hst.drew
    have hbx : W0.drew.heap[w.heap.size]? = _ := hbx
    refine wp_region_need (fun w' => w'.cell? ⟨w.heap.size, 1, none⟩ = some (.int .i64 y) ∧ w'.cell? ⟨w.heap.size, 2, none⟩ = some (.int .u8 b) ∧ w'.cell? ⟨w.heap.size, 3, none⟩ = some (.int .u8 s)) (fun _ => true) (by kernel_rfl) ⟨c1, c2, c3⟩ (fun hHeld => ?_)
    refine wpAnyN_take (i := 0) (v := ?_) rfl (by kernel_rfl) (by kernel_rfl) (by kernel_rfl) (by kernel_rfl) (fun _ _ _ h => h) (Or.inl ⟨by rfl, ?_⟩) (by assumption) ?_
    rotate_left
    · intro w hSw; ((try dsimp only at hSw); go_simp; (try with_reducible rfl))
    simp only [Act.put, List.setIfInBounds_toArray, List.set_cons_zero, List.set_cons_succ]
    refine wpAnyN_take (i := 1) (v := ?_) rfl (by kernel_rfl) (by kernel_rfl) (by kernel_rfl) (by kernel_rfl) (fun _ _ _ h => h) (Or.inl ⟨by rfl, ?_⟩) (by assumption) ?_
    rotate_left
    · intro w hSw; ((try dsimp only at hSw); go_simp; (try with_reducible rfl))
    simp only [Act.put, List.setIfInBounds_toArray, List.set_cons_zero, List.set_cons_succ]
    refine wpAnyN_take (i := 2) (v := ?_) rfl (by kernel_rfl) (by kernel_rfl) (by kernel_rfl) (by kernel_rfl) (fun _ _ _ h => h) (Or.inl ⟨by rfl, ?_⟩) (by assumption) ?_
    rotate_left
    · intro w hSw; ((try dsimp only at hSw); go_simp; (try with_reducible rfl))
    simp only [Act.put, List.setIfInBounds_toArray, List.set_cons_zero, List.set_cons_succ]
    refine wpAnyN_take (i := 3) (v := ?_) rfl (by kernel_rfl) (by kernel_rfl) (by kernel_rfl) (by kernel_rfl) (fun _ _ _ h => h) (Or.inl ⟨by rfl, ?_⟩) (by assumption) ?_
    rotate_left
    · intro w hSw; ((try dsimp only at hSw); go_simp; (try with_reducible rfl))
    simp only [Act.put, List.setIfInBounds_toArray, List.set_cons_zero, List.set_cons_succ]
    refine wpAnyN_take (i := 4) (v := ?_) rfl (by kernel_rfl) (by kernel_rfl) (by kernel_rfl) (by kernel_rfl) (fun _ _ _ h => h) (Or.inl ⟨by rfl, ?_⟩) (by assumption) ?_
    rotate_left
    · intro w hSw; ((try dsimp only at hSw); go_simp; (try with_reducible rfl))
    simp only [Act.put, List.setIfInBounds_toArray, List.set_cons_zero, List.set_cons_succ]
    refine wpAnyN_take (i := 5) (v := ?_) rfl (by kernel_rfl) (by kernel_rfl) (by kernel_rfl) (by kernel_rfl) (fun _ _ _ h => h) (Or.inl ⟨by rfl, ?_⟩) (by assumption) ?_
    rotate_left
    · intro w hSw; ((try dsimp only at hSw); go_simp; (try with_reducible rfl))
    simp only [Act.put, List.setIfInBounds_toArray, List.set_cons_zero, List.set_cons_succ]
    refine wpAnyN_take (i := 6) (v := ?_) rfl (by kernel_rfl) (by kernel_rfl) (by kernel_rfl) (by kernel_rfl) (fun _ _ _ h => h) (Or.inl ⟨by rfl, ?_⟩) (by assumption) ?_
    rotate_left
    · intro w hSw; ((try dsimp only at hSw); go_simp; (try with_reducible rfl))
    simp only [Act.put, List.setIfInBounds_toArray, List.set_cons_zero, List.set_cons_succ]
    refine wpAnyN_one (i := 7) rfl (by kernel_rfl) ?_
    go_wp2_with fail
    refine (sheet_int b s ⟨b0, b1⟩ ⟨s0, s1⟩ _ (tagAt o w.heap.size (0, 0))).mono ?_; rintro e wc ⟨v, oc, rfl, hs, hb⟩; have hb := hb.bytes; have hd := hd.step hs (fun x => x); have hst := hst.trans (hs.only D)
    have e1 := hs.block w.heap.size hbl (fun x => x)
    have hbl2 := Nat.lt_of_lt_of_le hbl hs.size
    have hot : oc w.heap.size = (0, 0) := by rw [hs.own _ hbl]; exact hbt
    go_wp2_with fail
    have hS1 : wc.cell? ⟨w.heap.size, 1, none⟩ = some (.int .i64 y) ∧ wc.cell? ⟨w.heap.size, 2, none⟩ = some (.int .u8 b) ∧ wc.cell? ⟨w.heap.size, 3, none⟩ = some (.int .u8 s) :=
      ⟨by rw [World.cell?_of_block (a := ⟨w.heap.size, 1, none⟩) e1]; exact hHeld.1, by rw [World.cell?_of_block (a := ⟨w.heap.size, 2, none⟩) e1]; exact hHeld.2.1, by rw [World.cell?_of_block (a := ⟨w.heap.size, 3, none⟩) e1]; exact hHeld.2.2⟩
    refine ⟨fun _ => hS1, ?_⟩
    rw [← hshH.out] at hb
    refine wpAnyN_one (i := 8) rfl (by kernel_rfl) ?_
    go_wp2_with fail
    refine (write_any hd hD _ _ _ hb hrow).mono ?_; rintro e wd ⟨v2, od, rfl, hs2, rfl, hd⟩; have hst := hst.trans hs2
    have e2 := hs2.block w.heap.size hbl2 (by rw [hot]; exact hN)
    go_wp2_with fail
    have hS2 : wd.cell? ⟨w.heap.size, 1, none⟩ = some (.int .i64 y) ∧ wd.cell? ⟨w.heap.size, 2, none⟩ = some (.int .u8 b) ∧ wd.cell? ⟨w.heap.size, 3, none⟩ = some (.int .u8 s) :=
      ⟨by rw [World.cell?_of_block (a := ⟨w.heap.size, 1, none⟩) e2]; exact hS1.1, by rw [World.cell?_of_block (a := ⟨w.heap.size, 2, none⟩) e2]; exact hS1.2.1, by rw [World.cell?_of_block (a := ⟨w.heap.size, 3, none⟩) e2]; exact hS1.2.2⟩
    refine ⟨fun _ => hS2, ?_⟩
    refine wpAnyN_one (i := 9) rfl (by kernel_rfl) ?_
    go_wp2_with fail
    refine ⟨fun _ => hS2, ?_⟩
    refine wpAnyN_done (by kernel_rfl) ?_ _
    go_wp2_with fail
    go_ret
    exact ⟨_, od, rfl, hst, rfl, hd⟩
  · obtain rfl := hdo.out _ hr
    simp only [show ¬ ((1 : Int) = 0) from by omega, if_false, if_true]
    go_enter Try.func31, Try.ntmps31
    go_wp2_with fail
    refine (sync_any hd hrow).mono ?_; rintro e wc ⟨v, oc, rfl, hs, rfl, hd⟩; have hst := hst.trans hs
    go_wp2_with fail
    go_ret
    exact ⟨_, oc, rfl, hst, rfl, hd⟩
  · obtain rfl := hdo.out _ hr
    simp only [show ¬ ((2 : Int) = 0) from by omega, show ¬ ((2 : Int) = 1) from by omega, if_false, if_true]
    go_enter Try.func31, Try.ntmps31
    go_wp2_with fail
    refine (fuse_any hd _ y1).mono ?_; rintro e wc ⟨v, oc, rfl, hs, rfl, hd⟩; have hst := hst.trans hs
    go_wp2_with fail
    go_ret
    exact ⟨_, oc, rfl, hst, rfl, hd⟩
  · obtain rfl := hdo.out _ hr
    simp only [show ¬ ((3 : Int) = 0) from by omega, show ¬ ((3 : Int) = 1) from by omega, show ¬ ((3 : Int) = 2) from by omega, if_false, if_true]
    go_enter Try.func31, Try.ntmps31
    go_wp2_with fail
    refine (kill_any hd).mono ?_; rintro e wc ⟨v, oc, rfl, hs, rfl, hd⟩; have hst := hst.trans hs
    go_wp2_with fail
    go_ret
    exact ⟨_, oc, rfl, hst, rfl, hd⟩
  · obtain rfl := hdo.out _ hr
    simp only [show ¬ ((4 : Int) = 0) from by omega, show ¬ ((4 : Int) = 1) from by omega, show ¬ ((4 : Int) = 2) from by omega, show ¬ ((4 : Int) = 3) from by omega, if_false, if_true]
    go_enter Try.func31, Try.ntmps31
    go_wp2_with fail
    refine (restart_any hd hD hrow _ _ hi2 hfwH.out).mono ?_; rintro e wc ⟨v, oc, rfl, hs, rfl, hd⟩; have hst := hst.trans hs
    go_wp2_with fail
    go_ret
    exact ⟨_, oc, rfl, hst, rfl, hd⟩
  · obtain rfl := hdo.out _ hr
    simp only [show ¬ ((5 : Int) = 0) from by omega, show ¬ ((5 : Int) = 1) from by omega, show ¬ ((5 : Int) = 2) from by omega, show ¬ ((5 : Int) = 3) from by omega, show ¬ ((5 : Int) = 4) from by omega, if_false]
    obtain ⟨bn, rfl⟩ := Int.eq_ofNat_of_zero_le b0
    rw [Int.toNat_natCast]
    go_enter Try.func31, Try.ntmps31
    go_wp2_with fail
    generalize hW0 : w.alloc (.cells #[.int .u8 x, .int .i64 y, .int .u8 (bn : Int), .int .u8 s, .slice ra fs.length rc] 43) = W0 at *
    have hdr : Step Nobody W0 (tagAt o w.heap.size (0, 0)) W0.drew (tagAt o w.heap.size (0, 0)) := (Step.refl _ _ _).drew
    have hd := hd.step hdr (fun x => x)
    have hst := hst.drew
    have hbx : W0.drew.heap[w.heap.size]? = _ := hbx
    refine wp_region_need (fun w' => w'.cell? ⟨w.heap.size, 1, none⟩ = some (.int .i64 y) ∧ w'.cell? ⟨w.heap.size, 2, none⟩ = some (.int .u8 (bn : Int))) (fun _ => true) (by kernel_rfl) ⟨c1, c2⟩ (fun hHeld => ?_)
    refine wpAnyN_take (i := 0) (v := ?_) rfl (by kernel_rfl) (by kernel_rfl) (by kernel_rfl) (by kernel_rfl) (fun _ _ _ h => h) (Or.inl ⟨by rfl, ?_⟩) (by assumption) ?_
    rotate_left
    · intro w hSw; ((try dsimp only at hSw); go_simp; (try with_reducible rfl))
    simp only [Act.put, List.setIfInBounds_toArray, List.set_cons_zero, List.set_cons_succ]
    refine wpAnyN_take (i := 1) (v := ?_) rfl (by kernel_rfl) (by kernel_rfl) (by kernel_rfl) (by kernel_rfl) (fun _ _ _ h => h) (Or.inl ⟨by rfl, ?_⟩) (by assumption) ?_
    rotate_left
    · intro w hSw; ((try dsimp only at hSw); go_simp; (try with_reducible rfl))
    simp only [Act.put, List.setIfInBounds_toArray, List.set_cons_zero, List.set_cons_succ]
    refine wpAnyN_take (i := 2) (v := ?_) rfl (by kernel_rfl) (by kernel_rfl) (by kernel_rfl) (by kernel_rfl) (fun _ _ _ h => h) (Or.inl ⟨by rfl, ?_⟩) (by assumption) ?_
    rotate_left
    · intro w hSw; ((try dsimp only at hSw); go_simp; (try with_reducible rfl))
    simp only [Act.put, List.setIfInBounds_toArray, List.set_cons_zero, List.set_cons_succ]
    refine wpAnyN_take (i := 3) (v := ?_) rfl (by kernel_rfl) (by kernel_rfl) (by kernel_rfl) (by kernel_rfl) (fun _ _ _ h => h) (Or.inl ⟨by rfl, ?_⟩) (by assumption) ?_
    rotate_left
    · intro w hSw; ((try dsimp only at hSw); go_simp; (try with_reducible rfl))
    simp only [Act.put, List.setIfInBounds_toArray, List.set_cons_zero, List.set_cons_succ]
    refine wpAnyN_take (i := 4) (v := ?_) rfl (by kernel_rfl) (by kernel_rfl) (by kernel_rfl) (by kernel_rfl) (fun _ _ _ h => h) (Or.inl ⟨by rfl, ?_⟩) (by assumption) ?_
    rotate_left
    · intro w hSw; ((try dsimp only at hSw); go_simp; (try with_reducible rfl))
    simp only [Act.put, List.setIfInBounds_toArray, List.set_cons_zero, List.set_cons_succ]
    have hmk := run_make_zero (P := Try.prog) W0.drew 28 5 _ 1 1 Try.underlying28 inf5 rfl bn (by omega) (by omega) .u8 .u8
    rw [zeros_bvs] at hmk
    have hs : Step Nobody W0.drew (tagAt o w.heap.size (0, 0)) _ _ := (Step.refl _ _ _).alloc (.cells (bvs (List.replicate bn 0)).toArray 5) (0, 0)
    have hb := bytes_zeros W0.drew (tagAt o w.heap.size (0, 0)) bn (by omega)
    have hd := hd.step hs (fun x => x); have hst := hst.trans (hs.only D)
    have e1 := hs.block w.heap.size hbl (fun x => x)
    have hbl2 := Nat.lt_of_lt_of_le hbl hs.size
    have hot := (hs.own _ hbl).trans hbt
    have hS1 : (W0.drew.alloc (.cells (bvs (List.replicate bn 0)).toArray 5)).cell? ⟨w.heap.size, 1, none⟩ = some (.int .i64 y) ∧ (W0.drew.alloc (.cells (bvs (List.replicate bn 0)).toArray 5)).cell? ⟨w.heap.size, 2, none⟩ = some (.int .u8 (bn : Int)) :=
      ⟨by rw [World.cell?_of_block (a := ⟨w.heap.size, 1, none⟩) e1]; exact hHeld.1, by rw [World.cell?_of_block (a := ⟨w.heap.size, 2, none⟩) e1]; exact hHeld.2⟩
    refine wpAnyN_one (i := 5) rfl (by kernel_rfl) ?_
    refine wpList_run rfl (exec_makeSlice 28 (.tmp 45) (.tmp 45) rfl hmk) ?_
    refine wpList_nil ?_
    simp only [Act.put, List.setIfInBounds_toArray, List.set_cons_zero, List.set_cons_succ]
    refine ⟨fun _ => hS1, ?_⟩
    clear hmk
    generalize hW1 : W0.drew.alloc (.cells (bvs (List.replicate bn 0)).toArray 5) = W1 at *
    refine wpAnyN_one (i := 6) rfl (by kernel_rfl) ?_
    go_wp2_with fail
    refine (write_any hd hD _ _ _ hb hrow).mono ?_; rintro e wd ⟨v2, od, rfl, hs2, rfl, hd⟩; have hst := hst.trans hs2
    have e2 := hs2.block w.heap.size hbl2 (by rw [hot]; exact hN)
    go_wp2_with fail
    have hS2 : wd.cell? ⟨w.heap.size, 1, none⟩ = some (.int .i64 y) ∧ wd.cell? ⟨w.heap.size, 2, none⟩ = some (.int .u8 (bn : Int)) :=
      ⟨by rw [World.cell?_of_block (a := ⟨w.heap.size, 1, none⟩) e2]; exact hS1.1, by rw [World.cell?_of_block (a := ⟨w.heap.size, 2, none⟩) e2]; exact hS1.2⟩
    refine ⟨fun _ => hS2, ?_⟩
    refine wpAnyN_one (i := 7) rfl (by kernel_rfl) ?_
    go_wp2_with fail
    refine ⟨fun _ => hS2, ?_⟩
    refine wpAnyN_done (by kernel_rfl) ?_ _
    go_wp2_with fail
    go_ret
    exact ⟨_, od, rfl, hst, rfl, hd⟩
end Go.Proofs.YtfgggkheadfiaaaR
/- Numbers of 64 bits as BitVec 64: the machine's operations on them. Over any program. -/
namespace Go.Proofs.YtfgggkheadfiaaaR
open Go Go.RowKit

def u64 (x : BitVec 64) : Value := .int .u64 (x.toNat : Int)
theorem ofInt64 (x : BitVec 64) : BitVec.ofInt 64 (x.toNat : Int) = x := by simp
theorem wrap64 (x : BitVec 64) : IntKind.u64.wrap (x.toNat : Int) = (x.toNat : Int) := by
  have := x.isLt
  simp [IntKind.wrap, IntKind.bits, IntKind.signed]; omega
section
variable {P : Program} (w : World) (x y : BitVec 64) (t : TypeId)
theorem run_xor64 : (binOp .xor t (.int .u64 (x.toNat : Int)) (.int .u64 (y.toNat : Int))).run P w = .ok (.int .u64 ((x ^^^ y).toNat : Int)) w := by
  simp only [binOp, Op.intBits, ne_eq, not_true_eq_false, if_false]
  show Sem.run P (pure (Value.int .u64 (IntKind.u64.wrap (((BitVec.ofInt 64 (x.toNat : Int)) ^^^ (BitVec.ofInt 64 (y.toNat : Int))).toNat : Int)))) w = _
  rw [ofInt64, ofInt64, wrap64]; rfl
theorem run_and64 : (binOp .and t (.int .u64 (x.toNat : Int)) (.int .u64 (y.toNat : Int))).run P w = .ok (.int .u64 ((x &&& y).toNat : Int)) w := by
  simp only [binOp, Op.intBits, ne_eq, not_true_eq_false, if_false]
  show Sem.run P (pure (Value.int .u64 (IntKind.u64.wrap (((BitVec.ofInt 64 (x.toNat : Int)) &&& (BitVec.ofInt 64 (y.toNat : Int))).toNat : Int)))) w = _
  rw [ofInt64, ofInt64, wrap64]; rfl
theorem run_or64 : (binOp .or t (.int .u64 (x.toNat : Int)) (.int .u64 (y.toNat : Int))).run P w = .ok (.int .u64 ((x ||| y).toNat : Int)) w := by
  simp only [binOp, Op.intBits, ne_eq, not_true_eq_false, if_false]
  show Sem.run P (pure (Value.int .u64 (IntKind.u64.wrap (((BitVec.ofInt 64 (x.toNat : Int)) ||| (BitVec.ofInt 64 (y.toNat : Int))).toNat : Int)))) w = _
  rw [ofInt64, ofInt64, wrap64]; rfl
theorem run_shr64 (k : IntKind) (n : Nat) (hn : n ≤ 64) : (binOp .shr t (.int .u64 (x.toNat : Int)) (.int k (n : Int))).run P w = .ok (.int .u64 ((x >>> n).toNat : Int)) w := by
  simp only [binOp, Op.shift]
  rw [if_neg (by omega)]
  have hm : min ((n : Int).toNat) IntKind.u64.bits = n := by simp [IntKind.bits]; omega
  simp only [hm]
  show Sem.run P (pure (Value.int .u64 ((x.toNat : Int).fdiv (2 ^ n)))) w = _
  have : (x.toNat : Int).fdiv (2 ^ n) = ((x >>> n).toNat : Int) := by
    rw [BitVec.toNat_ushiftRight, Nat.shiftRight_eq_div_pow, Int.fdiv_eq_ediv_of_nonneg _ (Int.pow_nonneg (by omega))]
    simp
  rw [this]; rfl
theorem run_shl64 (k : IntKind) (n : Nat) (hn : n ≤ 64) : (binOp .shl t (.int .u64 (x.toNat : Int)) (.int k (n : Int))).run P w = .ok (.int .u64 ((x <<< n).toNat : Int)) w := by
  simp only [binOp, Op.shift]
  rw [if_neg (by omega)]
  have hm : min ((n : Int).toNat) IntKind.u64.bits = n := by simp [IntKind.bits]; omega
  simp only [hm]
  show Sem.run P (pure (Value.int .u64 (IntKind.u64.wrap ((x.toNat : Int) * 2 ^ n)))) w = _
  have : IntKind.u64.wrap ((x.toNat : Int) * 2 ^ n) = ((x <<< n).toNat : Int) := by
    rw [BitVec.toNat_shiftLeft, Nat.shiftLeft_eq]
    simp [IntKind.wrap, IntKind.bits, IntKind.signed]
  rw [this]; rfl
theorem run_neg64 : (Op.unary .neg (.int .u64 (x.toNat : Int))).run P w = .ok (.int .u64 ((-x).toNat : Int)) w := by
  have : IntKind.u64.wrap (0 - (x.toNat : Int)) = ((-x).toNat : Int) := by
    have := x.isLt
    rw [BitVec.toNat_neg]
    simp only [IntKind.wrap, IntKind.bits, IntKind.signed]
    simp
    omega
  show Sem.run P (pure (Value.int .u64 (IntKind.u64.wrap (0 - (x.toNat : Int))))) w = _
  rw [this]; rfl
theorem run_not64 : (Op.unary .xor (.int .u64 (x.toNat : Int))).run P w = .ok (.int .u64 ((~~~x).toNat : Int)) w := by
  have hm : BitVec.ofInt 64 IntKind.u64.max = BitVec.allOnes 64 := by decide
  show Sem.run P (pure (Value.int .u64 (IntKind.u64.wrap (((BitVec.ofInt 64 IntKind.u64.max) ^^^ (BitVec.ofInt 64 (x.toNat : Int))).toNat : Int)))) w = _
  rw [ofInt64, wrap64, hm]
  have : BitVec.allOnes 64 ^^^ x = ~~~x := BitVec.allOnes_xor
  rw [this]; rfl
theorem run_add64 : (binOp .add t (.int .u64 (x.toNat : Int)) (.int .u64 (y.toNat : Int))).run P w = .ok (.int .u64 ((x + y).toNat : Int)) w := by
  have : IntKind.u64.wrap ((x.toNat : Int) + (y.toNat : Int)) = ((x + y).toNat : Int) := by
    rw [BitVec.toNat_add]
    simp only [IntKind.wrap, IntKind.bits, IntKind.signed]
    simp
  show Sem.run P (pure (Value.int .u64 (IntKind.u64.wrap ((x.toNat : Int) + (y.toNat : Int))))) w = _
  rw [this]; rfl
end
end Go.Proofs.YtfgggkheadfiaaaR
/- Contracts of small functions on bytes: slices.Clone, bytes.Equal, wire.number, wire.Uint. -/
namespace Go.Proofs.YtfgggkheadfiaaaR
open Go Go.RowKit
attribute [local go_sem ↓] Go.wp_at_zero Go.wp_at_succ

theorem str_eqb (l1 l2 : List UInt8) : ((⟨l1.toArray⟩ : ByteArray).toList == (⟨l2.toArray⟩ : ByteArray).toList) = decide (l1 = l2) := by
  rw [ByteArray.toList_eq, ByteArray.toList_eq]
  by_cases h : l1 = l2 <;> simp [h]
theorem bequal_any {w : World} {o : Own} {v1 v2 : Value} {l1 l2 : List UInt8} (h1 : Bytes w o v1 l1) (h2 : Bytes w o v2 l2) : Calls Try.prog 114 #[v1, v2] w fun e w' => e = .returned (.bool (l1 == l2)) ∧ w = w' := by
  have c1 := conv_string h1
  have c2 := conv_string h2
  obtain ⟨a1, k1, rfl⟩ := slc_form h1
  obtain ⟨a2, k2, rfl⟩ := slc_form h2
  clear h1 h2
  go_enter Try.func114, Try.ntmps114
  go_wp2
  go_ret
  exact ⟨rfl, rfl⟩

theorem run_eqlnil {P : Program} (w : World) (t e : TypeId) (a : Option Addr) (n c : Nat) (h : P.underlying t = some (.slice e)) :
    (binOp .eql t (.slice a n c) (.slice none 0 0)).run P w = .ok (.bool a.isNone) w := by
  have h1 : ∀ d, (Op.equalIn (d + 1) t (.slice a n c) (.slice none 0 0)).run P w = .ok a.isNone w := fun d => by
    cases a <;> simp [Op.equalIn, run_underlying h]
  simp only [binOp]
  simp [Op.equal, Op.maxDepth, h1 9999]
/-- Bytes appended to an owned row. -/
theorem run_append_bytes (W : World) {base : Nat} (hbase : base ≤ W.heap.size) (v : Value) (n : Nat) (xs : List UInt8) (hown : W.ownsRow base 5 1 v n (bvs xs)) (b off m c : Nat) (news : List UInt8) (hl : news.length = m) (hr : W.rangeAt b off (bvs news)) (hm : 0 < m) (h63 : n + m ≤ 1000000000) :
    ∃ g cap w', (Builtin.append_ #[28, 28] 28 #[v, .slice (some ⟨b, off, none⟩) m c]).run Try.prog W = .ok (.slice (some ⟨g, 0, none⟩) (n + m) cap) w' ∧
      w'.ownsRow base 5 1 (.slice (some ⟨g, 0, none⟩) (n + m) cap) (n + m) (bvs (xs ++ news)) ∧ W.grownBy w' v.ownBlock ∧ (v.ownBlock = some g ∨ g = W.heap.size) ∧ g < w'.heap.size := by
  obtain ⟨g, cap, w', h1, h2, h3⟩ := run_append_row (P := Try.prog) W 28 28 5 Try.underlying28 inf5 rfl (by omega) hbase v n (bvs xs) hown b off m c (bvs news) (by rw [length_bvs]; omega) hr (one_bvs news) hm (by omega) (by omega)
  exact ⟨g, cap, w', h1, by rw [bvs_append]; exact h2, h3⟩

set_option maxRecDepth 100000 in
set_option maxHeartbeats 800000 in
theorem clone_any {w : World} {o : Own} {v : Value} {l : List UInt8} (h : Bytes w o v l) (hll : l.length ≤ 1000000) : Calls Try.prog 89 #[v] w (Ret Nobody w o fun v w' o' => NewB w w' o' v l) := by
  have hz : (w.alloc (.cells #[] 5)).ownsRow w.heap.size 5 1 (.slice (some ⟨w.heap.size, 0, none⟩) 0 0) 0 (bvs []) := ⟨rfl, .inr ⟨_, 0, #[], rfl, Nat.le_refl _, heap_alloc_new w _, by omega, by simp, rfl, rfl⟩⟩
  have hbz : Below w.heap.size w (w.alloc (.cells #[] 5)) := (Below.refl _ _).alloc (Nat.le_refl _) _
  have fin : ∀ (w' : World) (v' : Value), Below w.heap.size w w' → w'.ownsRow w.heap.size 5 1 v' l.length (bvs l) → Ret Nobody w o (fun v w' o' => NewB w w' o' v l) (.returned v') w' := fun w' v' hb ho =>
    ⟨_, (fun k => if k < w.heap.size then o k else (0, 0)), rfl, ⟨hb.os, hb.tape, hb.output, hb.size, fun k hk => if_pos hk, fun k hk _ => hb.block k hk⟩, ho, fun k hk => if_neg (by have := (ho.lt k hk).1; omega)⟩
  rcases h.cases with ⟨⟨a, c, rfl⟩, rfl⟩ | ⟨b, off, cap, rfl, hl, hm, ho, hb, hr⟩
  · cases a with
    | none =>
      have he := run_eqlnil w 28 5 none 0 c Try.underlying28
      go_enter Try.func89, Try.ntmps89
      go_wp2
      go_ret
      exact fin _ _ (Below.refl _ _) (World.ownsRow_nil _ _ _ _)
    | some ad =>
      have he := run_eqlnil w 28 5 (some ad) 0 c Try.underlying28
      go_enter Try.func89, Try.ntmps89
      go_wp2_with fail
      go_ret
      exact fin _ _ hbz hz
  · by_cases h0 : l.length = 0
    · have hl0 : l = [] := List.eq_nil_of_length_eq_zero h0
      subst hl0
      have he := run_eqlnil w 28 5 (some ⟨b, off, none⟩) 0 cap Try.underlying28
      simp only [List.length_nil]
      go_enter Try.func89, Try.ntmps89
      go_wp2_with fail
      go_ret
      exact fin _ _ hbz hz
    · have he := run_eqlnil w 28 5 (some ⟨b, off, none⟩) l.length cap Try.underlying28
      have hr1 : (w.alloc (.cells #[] 5)).rangeAt b off (bvs l) := World.rangeAt_alloc hr _
      obtain ⟨g, cp, w3, hrun, hown, hgrow, hat, hlt⟩ := run_append_bytes (w.alloc (.cells #[] 5)) (base := w.heap.size) (by simp) _ 0 [] hz b off l.length cap l rfl hr1 (by omega) (by omega)
      have hb3 := hbz.grown hgrow (by simp) (fun k hk => by simp only [Value.ownBlock, Option.some.injEq] at hk; omega)
      rw [Nat.zero_add, List.nil_append] at hown
      rw [Nat.zero_add] at hrun
      have hrunH := hidden hrun
      clear hrun hr1 hr
      go_enter Try.func89, Try.ntmps89
      go_wp2_with ((with_reducible apply lit_append); exact hrunH.out; simp only [Act.put, List.setIfInBounds_toArray, List.set_cons_zero, List.set_cons_succ])
      go_ret
      exact fin _ _ hb3 hown

theorem own_form {w : World} {base e size n : Nat} {v : Value} {xs : List Value} (h : w.ownsRow base e size v n xs) : ∃ a c, v = .slice a n c := by
  rcases h.2 with ⟨rfl, rfl⟩ | ⟨g, cap, cur, rfl, _⟩
  · exact ⟨_, _, rfl⟩
  · exact ⟨_, _, rfl⟩
/-- Byte k of a number; n bytes, the highest first. -/
def beB (x : BitVec 64) (k : Nat) : UInt8 := UInt8.ofNat (x >>> (8 * k)).toNat
def be (n : Nat) (x : BitVec 64) : List UInt8 := (List.range n).map fun i => beB x (n - 1 - i)
theorem length_be (n : Nat) (x : BitVec 64) : (be n x).length = n := by simp [be]
theorem be_take (n : Nat) (x : BitVec 64) (j : Nat) (hj : j < n) : (be n x).take (j + 1) = (be n x).take j ++ [beB x (n - 1 - j)] := by
  rw [List.take_succ_eq_append_getElem (by rw [length_be]; exact hj)]
  simp [be]
theorem beB_int (x : BitVec 64) (k : Nat) : ((x >>> (8 * k)).toNat : Int) % 256 = ((beB x k).toNat : Int) := by
  unfold beB; rw [UInt8.toNat_ofNat']; omega

theorem beB_int2 (x : BitVec 64) (k : Nat) : (x.toNat : Int) / 2 ^ (8 * k) % 256 = ((beB x k).toNat : Int) := by
  rw [← beB_int, BitVec.toNat_ushiftRight, Nat.shiftRight_eq_div_pow]; simp
set_option maxRecDepth 100000 in
set_option maxHeartbeats 1600000 in
theorem wnumber_any {w : World} {o : Own} {v : Value} {l : List UInt8} (h : Bytes w o v l) (hll : l.length ≤ 1000000) (x : BitVec 64) (n : Nat) (hn : n ≤ 8) :
    Calls Try.prog 135 #[v, .int .u64 (x.toNat : Int), .int .i64 (n : Int)] w (Ret Nobody w o fun v w' o' => NewB w w' o' v (l ++ be n x)) := by
  have hcl := clone_any h hll
  go_enter Try.func135, Try.ntmps135
  go_wp2_with fail
  refine hcl.mono ?_; rintro e wc ⟨v1, oc, rfl, hs, hown1, ho1⟩
  have hbel : Below w.heap.size w wc := hs.below
  go_wp2_with fail
  go_loopw [7, 8] (fun out i wr => ∃ j : Nat, j ≤ n ∧ i = .int .i64 ((n : Int) - 1 - j) ∧ wr.ownsRow w.heap.size 5 1 out (l.length + j) (bvs (l ++ (be n x).take j)) ∧ Below w.heap.size w wr)
    (fun _ i _ => (intOf i + 1).toNat)
  case atStart => exact ⟨0, Nat.zero_le _, by simp, by simpa using hown1, hbel⟩
  case round =>
    clear hown1 hbel hs hcl
    obtain ⟨j, hj, rfl, hown, hbel⟩ := hrel
    by_cases hlt : j < n
    · obtain ⟨k, hk⟩ : ∃ k : Nat, (n : Int) - 1 - j = (k : Int) ∧ k = n - 1 - j := ⟨n - 1 - j, by omega, rfl⟩
      obtain ⟨hk, hkn⟩ := hk
      rw [hk]
      have hk8 : k < 8 := by omega
      have hb8 := beB_int2 x k
      obtain ⟨oa, oc2, rfl⟩ := own_form hown
      have hownA := hown.alloc (.cells #[.int .u8 ((beB x k).toNat : Int)] 5)
      have hnb : (wr.alloc (.cells #[.int .u8 ((beB x k).toNat : Int)] 5)).heap[wr.heap.size]? = some (.cells [Value.int .u8 ((beB x k).toNat : Int)].toArray 5 (0, 0)) := heap_alloc_new wr _
      have hbs := hbel.size
      obtain ⟨g, cap, w3, hrun, hown3, hgrow, hat, hlt3⟩ := run_append_bytes (wr.alloc (.cells #[.int .u8 ((beB x k).toNat : Int)] 5)) (base := w.heap.size) (by simp; omega) _ (l.length + j) _ hownA wr.heap.size 0 1 1 [beB x k] rfl (range_whole hnb) (by omega) (by omega)
      have hb3 : Below w.heap.size w w3 := (hbel.alloc hbel.size _).grown hgrow (by simp; omega) (fun k hk => (hown.lt k hk).1)
      have hown3' : w3.ownsRow w.heap.size 5 1 (.slice (some ⟨g, 0, none⟩) (l.length + j + 1) cap) (l.length + (j + 1)) (bvs (l ++ (be n x).take (j + 1))) := by
        rw [be_take n x j hlt, ← hkn, ← List.append_assoc]; exact hown3
      have hrunH := hidden hrun
      clear hrun hown3 hownA hnb hown hat hlt3 hkn
      go_wp2_with ((with_reducible apply lit_append); exact hrunH.out; simp only [Act.put, List.setIfInBounds_toArray, List.set_cons_zero, List.set_cons_succ])
      go_roundw
      case rel => exact ⟨j + 1, hlt, by go_num, hown3', hb3⟩
      case measure => (simp [intOf] <;> omega)
    · have hj' : j = n := by omega
      subst hj'
      rw [List.take_of_length_le (by rw [length_be]; omega)] at hown
      have hm1 : (j : Int) - 1 - j = -1 := by omega
      rw [hm1]
      obtain ⟨oa, oc2, rfl⟩ := own_form hown
      go_wp2_with fail
      go_ret
      refine ⟨_, (fun k => if k < w.heap.size then o k else (0, 0)), rfl, ⟨hbel.os, hbel.tape, hbel.output, hbel.size, fun k hk => if_pos hk, fun k hk _ => hbel.block k hk⟩, ?_, fun k hk => if_neg (by have := (hown.lt k hk).1; omega)⟩
      rw [List.length_append, length_be]; exact hown
end Go.Proofs.YtfgggkheadfiaaaR
/- Contracts: wire.Uint, log.small, log.number. -/
namespace Go.Proofs.YtfgggkheadfiaaaR
open Go Go.RowKit
attribute [local go_sem ↓] Go.wp_at_zero Go.wp_at_succ

theorem wuint_any {w : World} {o : Own} {v : Value} {l : List UInt8} (h : Bytes w o v l) (hll : l.length ≤ 1000000) (x : BitVec 64) :
    Calls Try.prog 104 #[v, .int .u64 (x.toNat : Int)] w (Ret Nobody w o fun v w' o' => NewB w w' o' v (l ++ be 8 x)) := by
  have hc := wnumber_any h hll x 8 (by omega)
  go_enter Try.func104, Try.ntmps104
  go_wp2_with fail
  refine hc.mono ?_; rintro e w1 ⟨v1, o1, rfl, hs, hn⟩
  go_wp2_with fail
  go_ret
  exact ⟨_, o1, rfl, hs, hn⟩

/-- The number that bytes say, the highest first (what falls out above is gone). -/
def num (l : List UInt8) : BitVec 64 := l.foldl (fun n c => (n <<< 8) ||| BitVec.ofNat 64 c.toNat) 0
theorem num_snoc (l : List UInt8) (c : UInt8) : num (l ++ [c]) = (num l <<< 8) ||| BitVec.ofNat 64 c.toNat := by simp [num]
theorem ofU8 (c : UInt8) : ((BitVec.ofNat 64 c.toNat).toNat : Int) = (c.toNat : Int) := by
  have := c.toNat_lt; simp
theorem bits_or (x y : BitVec 64) : bits .or .u64 (x.toNat : Int) (y.toNat : Int) = ((x ||| y).toNat : Int) := by
  have hb : ∀ x y : BitVec 64, bits .or .u64 (x.toNat : Int) (y.toNat : Int) = IntKind.u64.wrap (((BitVec.ofInt 64 (x.toNat : Int)) ||| (BitVec.ofInt 64 (y.toNat : Int))).toNat : Int) := fun x y => rfl
  rw [hb, ofInt64, ofInt64, wrap64]
theorem wrap_shl8 (x : BitVec 64) : IntKind.u64.wrap ((x.toNat : Int) * 256) = ((x <<< 8).toNat : Int) := by
  rw [BitVec.toNat_shiftLeft, Nat.shiftLeft_eq]
  simp [IntKind.wrap, IntKind.bits, IntKind.signed]
theorem wrap_u8 (c : UInt8) : IntKind.u64.wrap (c.toNat : Int) = ((BitVec.ofNat 64 c.toNat).toNat : Int) := by
  have := wrap64 (BitVec.ofNat 64 c.toNat)
  rw [ofU8] at this; rw [this, ofU8]
set_option maxRecDepth 100000 in
set_option maxHeartbeats 1600000 in
theorem lnumber_any {w : World} {o : Own} {v : Value} {l : List UInt8} (h : Bytes w o v l) (hll : l.length ≤ 1000000) :
    Calls Try.prog 77 #[v] w fun e w' => e = .returned (.int .u64 ((num l).toNat : Int)) ∧ w = w' := by
  obtain ⟨a, c, hv⟩ := slc_form h
  have hcell : ∀ i (hi : i < l.length), ∃ b off, a = some ⟨b, off, none⟩ ∧ w.cell? ⟨b, off + i, none⟩ = some (.int .u8 ((l[i].toNat : Int))) := by
    intro i hi
    rcases h.cases with ⟨_, rfl⟩ | ⟨b, off, cap, hv2, hl, hm, ho, hb, hr⟩
    · simp at hi
    · rw [hv] at hv2
      simp only [Value.slice.injEq] at hv2
      refine ⟨b, off, hv2.1, hr i _ ?_⟩
      rw [get_bvs, List.getElem?_eq_getElem hi]; rfl
  subst hv
  clear h
  go_enter Try.func77, Try.ntmps77
  go_wp2_with fail
  go_loop [3, 8] (fun n i => ∃ k : Nat, k ≤ l.length ∧ i = .int .i64 k ∧ n = .int .u64 ((num (l.take k)).toNat : Int)) (fun _ i => l.length - (intOf i).toNat)
  case atStart => exact ⟨0, Nat.zero_le _, rfl, rfl⟩
  case round =>
    obtain ⟨k, hk, rfl, rfl⟩ := hrel
    by_cases hlt : k < l.length
    · obtain ⟨b, off, rfl, hc⟩ := hcell k hlt
      have hsn : num (l.take (k + 1)) = (num (l.take k) <<< 8) ||| BitVec.ofNat 64 l[k].toNat := by
        rw [List.take_succ_eq_append_getElem hlt, num_snoc]
      have hsnH := hidden hsn
      clear hsn hcell
      generalize hcc : l[k] = cc at *
      clear hcc
      go_wp2_with fail
      go_round
      case rel => exact ⟨k + 1, hlt, by go_num, by rw [hsnH.out, ← bits_or, ← wrap_shl8, ← wrap_u8]⟩
      case measure => simp [intOf]; omega
    · have hk' : k = l.length := by omega
      subst hk'
      rw [List.take_length]
      go_wp2_with fail
      go_ret
      exact ⟨rfl, rfl⟩
end Go.Proofs.YtfgggkheadfiaaaR
/- Contract: crc.Sum. -/
namespace Go.Proofs.YtfgggkheadfiaaaR
open Go Go.RowKit
attribute [local go_sem ↓] Go.wp_at_zero Go.wp_at_succ

def crcOut : BitVec 64 := 0xc96c5795d7870f42#64
def crcStep (n : BitVec 64) : BitVec 64 := (n >>> 1) ^^^ (crcOut &&& -(n &&& 1#64))
def crcSteps (n : BitVec 64) : Nat → BitVec 64
  | 0 => n
  | k + 1 => crcStep (crcSteps n k)
def crcByte (n : BitVec 64) (c : UInt8) : BitVec 64 := crcSteps (n ^^^ BitVec.ofNat 64 c.toNat) 8
def crcRun (l : List UInt8) : BitVec 64 := l.foldl crcByte (BitVec.allOnes 64)
def crcSum (l : List UInt8) : BitVec 64 := ~~~ crcRun l
theorem crcRun_snoc (l : List UInt8) (c : UInt8) : crcRun (l ++ [c]) = crcByte (crcRun l) c := by simp [crcRun]

theorem bits_xor (x y : BitVec 64) : bits .xor .u64 (x.toNat : Int) (y.toNat : Int) = ((x ^^^ y).toNat : Int) := by
  have hb : ∀ x y : BitVec 64, bits .xor .u64 (x.toNat : Int) (y.toNat : Int) = IntKind.u64.wrap (((BitVec.ofInt 64 (x.toNat : Int)) ^^^ (BitVec.ofInt 64 (y.toNat : Int))).toNat : Int) := fun x y => rfl
  rw [hb, ofInt64, ofInt64, wrap64]
theorem bits_and (x y : BitVec 64) : bits .and .u64 (x.toNat : Int) (y.toNat : Int) = ((x &&& y).toNat : Int) := by
  have hb : ∀ x y : BitVec 64, bits .and .u64 (x.toNat : Int) (y.toNat : Int) = IntKind.u64.wrap (((BitVec.ofInt 64 (x.toNat : Int)) &&& (BitVec.ofInt 64 (y.toNat : Int))).toNat : Int) := fun x y => rfl
  rw [hb, ofInt64, ofInt64, wrap64]
theorem wrap_neg (x : BitVec 64) : IntKind.u64.wrap (-(x.toNat : Int)) = ((-x).toNat : Int) := by
  have := x.isLt
  rw [BitVec.toNat_neg]
  simp only [IntKind.wrap, IntKind.bits, IntKind.signed]
  simp
  omega
theorem crcNot_int (y : BitVec 64) : bits .xor .u64 IntKind.u64.max (y.toNat : Int) = ((~~~y).toNat : Int) := by
  have h1 := bits_xor (BitVec.allOnes 64) y
  have h2 : ((BitVec.allOnes 64).toNat : Int) = IntKind.u64.max := by decide
  rw [h2, BitVec.allOnes_xor] at h1
  exact h1
theorem crcStep_int (y : BitVec 64) : bits .xor .u64 ((y.toNat : Int) / 2) (bits .and .u64 14514072000185962306 (IntKind.u64.wrap (-bits .and .u64 (y.toNat : Int) 1))) = ((crcStep y).toNat : Int) := by
  have h1 : bits .and .u64 (y.toNat : Int) 1 = ((y &&& 1#64).toNat : Int) := bits_and y 1#64
  have h2 : (y.toNat : Int) / (2 : Int) = ((y >>> 1).toNat : Int) := by
    rw [BitVec.toNat_ushiftRight, Nat.shiftRight_eq_div_pow]; simp
  rw [h1, wrap_neg, h2]
  have h3 := bits_and crcOut (-(y &&& 1#64))
  have h4 : ((crcOut).toNat : Int) = 14514072000185962306 := by decide
  rw [h4] at h3
  rw [h3, bits_xor]; rfl
set_option maxRecDepth 100000 in
set_option maxHeartbeats 1600000 in
theorem crc_any {w : World} {o : Own} {v : Value} {l : List UInt8} (h : Bytes w o v l) (hll : l.length ≤ 1000000) :
    Calls Try.prog 120 #[v] w fun e w' => e = .returned (.int .u64 ((crcSum l).toNat : Int)) ∧ w = w' := by
  obtain ⟨a, c, hv⟩ := slc_form h
  have hcell : ∀ i (hi : i < l.length), ∃ b off, a = some ⟨b, off, none⟩ ∧ w.cell? ⟨b, off + i, none⟩ = some (.int .u8 ((l[i].toNat : Int))) := by
    intro i hi
    rcases h.cases with ⟨_, rfl⟩ | ⟨b, off, cap, hv2, hl, hm, ho, hb, hr⟩
    · simp at hi
    · rw [hv] at hv2
      simp only [Value.slice.injEq] at hv2
      refine ⟨b, off, hv2.1, hr i _ ?_⟩
      rw [get_bvs, List.getElem?_eq_getElem hi]; rfl
  subst hv
  clear h
  go_enter Try.func120, Try.ntmps120
  go_wp2_with fail
  go_loop [3, 9] (fun n i => ∃ k : Nat, k ≤ l.length ∧ i = .int .i64 k ∧ n = .int .u64 ((crcRun (l.take k)).toNat : Int)) (fun _ i => l.length - (intOf i).toNat)
  case atStart => exact ⟨0, Nat.zero_le _, rfl, rfl⟩
  case round =>
    obtain ⟨k, hk, rfl, rfl⟩ := hrel
    by_cases hlt : k < l.length
    · obtain ⟨b, off, rfl, hc⟩ := hcell k hlt
      have hsn : crcRun (l.take (k + 1)) = crcSteps (crcRun (l.take k) ^^^ BitVec.ofNat 64 l[k].toNat) 8 := by
        rw [List.take_succ_eq_append_getElem hlt, crcRun_snoc]; rfl
      have hsnH := hidden hsn
      clear hsn hcell
      generalize hcc : l[k] = cc at *
      clear hcc
      generalize hcr : crcRun (l.take k) = m0 at *
      clear hcr
      go_wp2_with fail
      go_loop [3, 17] (fun n i => ∃ j : Nat, j ≤ 8 ∧ i = .int .i64 j ∧ n = .int .u64 ((crcSteps (m0 ^^^ BitVec.ofNat 64 cc.toNat) j).toNat : Int)) (fun _ i => 8 - (intOf i).toNat)
      case atStart => exact ⟨0, by omega, rfl, by rw [wrap_u8, bits_xor]; rfl⟩
      case round =>
        obtain ⟨j, hj, rfl, rfl⟩ := hrel
        by_cases hlt2 : j < 8
        · have hst : crcSteps (m0 ^^^ BitVec.ofNat 64 cc.toNat) (j + 1) = crcStep (crcSteps (m0 ^^^ BitVec.ofNat 64 cc.toNat) j) := rfl
          have hstH := hidden hst
          clear hst
          generalize crcSteps (m0 ^^^ BitVec.ofNat 64 cc.toNat) j = y at *
          go_wp2_with fail
          go_round
          case rel => exact ⟨j + 1, hlt2, by go_num, by rw [hstH.out, ← crcStep_int]⟩
          case measure => simp [intOf]; omega
        · have : j = 8 := by omega
          subst this
          go_wp2_with fail
          go_round
          case rel => exact ⟨k + 1, hlt, by go_num, by rw [hsnH.out]⟩
          case measure => simp [intOf]; omega
    · have hk' : k = l.length := by omega
      subst hk'
      rw [List.take_length]
      go_wp2_with fail
      go_ret
      refine ⟨?_, rfl⟩
      show Ending.returned (Value.int .u64 (bits .xor .u64 IntKind.u64.max ((crcRun l).toNat : Int))) = _
      rw [crcNot_int]; rfl
end Go.Proofs.YtfgggkheadfiaaaR
/- The log as a plain Lean thing: leaves and pages, what pages say, the log's own acts on a disk. No program in sight. -/
namespace Go.Proofs.YtfgggkheadfiaaaR
open Go Go.RowKit

structure LeafM where
  stamp : BitVec 64
  at' : Nat
  of' : Nat
  bytes : List UInt8

namespace LeafM
def said (x : LeafM) : List UInt8 :=
  be 8 x.stamp ++ be 2 (BitVec.ofNat 64 x.at') ++ be 2 (BitVec.ofNat 64 x.of') ++ be 4 (BitVec.ofNat 64 x.bytes.length) ++ x.bytes ++ List.replicate (480 - x.bytes.length) 0
def page (x : LeafM) : List UInt8 := x.said ++ (be 8 (crcSum x.said)).reverse ++ be 8 x.stamp
theorem length_said {x : LeafM} (h : x.bytes.length ≤ 480) : x.said.length = 496 := by
  simp [said, length_be]; omega
theorem length_page {x : LeafM} (h : x.bytes.length ≤ 480) : x.page.length = 512 := by
  simp [page, length_be, length_said h]
end LeafM
def noLeaf : LeafM := ⟨0, 0, 0, []⟩
/-- What a page says. -/
def leafOf (p : List UInt8) : LeafM := ⟨num (p.take 8), (num ((p.drop 8).take 2)).toNat, (num ((p.drop 10).take 2)).toNat, (p.drop 16).take (num ((p.drop 12).take 4)).toNat⟩
def saysOk (p : List UInt8) : Bool := !(num (p.take 8) == 0#64) && decide ((num ((p.drop 12).take 4)).toNat ≤ 480) && ((leafOf p).page == p)
def saidL (p : List UInt8) : LeafM × Bool :=
  if num (p.take 8) = 0#64 ∨ 480 < (num ((p.drop 12).take 4)).toNat then (noLeaf, false) else (leafOf p, (leafOf p).page == p)

structure LogM where
  first : Nat
  n : Nat
  stamp : BitVec 64
  headed : Bool
  end' : Nat
  records : List (List UInt8)
  dead : Bool

namespace LogM
def umax (a b : BitVec 64) : BitVec 64 := if a.toNat < b.toNat then b else a
def newest (pages : List (List UInt8)) : BitVec 64 := pages.foldl (fun s p => umax (umax s (num (p.take 8))) (num (p.drop 504))) 0
def leavesOf (pages : List (List UInt8)) : List LeafM := (pages.takeWhile fun p => (saidL p).2).map fun p => (saidL p).1
/-- Is a run of leaves one record? -/
def run (stamp : BitVec 64) (of' : Nat) : Nat → List LeafM → Bool
  | _, [] => true
  | i, y :: r => y.stamp == stamp && y.at' == i && y.of' == of' && run stamp of' (i + 1) r
/-- The record that begins at leaf e: how many leaves, their stamp, its bytes. -/
def accept (leaves : List LeafM) (e : Nat) (last : BitVec 64) : Option (Nat × BitVec 64 × List UInt8) :=
  match leaves[e]? with
  | none => none
  | some x =>
    if x.stamp.toNat ≤ last.toNat ∨ x.of' < 1 ∨ leaves.length - e < x.of' then none
    else if run x.stamp x.of' 0 ((leaves.drop e).take x.of') then some (x.of', x.stamp, ((leaves.drop e).take x.of').flatMap LeafM.bytes) else none
/-- From the end so far, the last stamp, and the records so far. -/
def readL (leaves : List LeafM) : Nat → Nat × BitVec 64 × List (List UInt8) → Nat × BitVec 64 × List (List UInt8)
  | 0, s => s
  | f + 1, s =>
    match accept leaves s.1 s.2.1 with
    | none => s
    | some r => readL leaves f (s.1 + r.1, r.2.1, s.2.2 ++ [r.2.2])
def isHead : List LeafM → Bool
  | [] => false
  | x :: _ => x.at' == 0 && x.of' == 0 && x.bytes.length == 0
def headStamp : List LeafM → BitVec 64
  | [] => 0
  | x :: _ => x.stamp
def readAll (ls : List LeafM) : Nat × BitVec 64 × List (List UInt8) := readL ls ls.length (1, headStamp ls, [])
/-- The log that pages tell. -/
def ofPages (first : Nat) (pages : List (List UInt8)) : LogM :=
  let ls := leavesOf pages
  { first := first, n := pages.length, stamp := newest pages, headed := isHead ls, end' := if isHead ls then (readAll ls).1 else 1, records := if isHead ls then (readAll ls).2.2 else [], dead := false }
def seenPages (d : DiskM) (first n : Nat) : List (List UInt8) := (List.range n).map fun i => d.seen (first + i)
/-- Open: an error, or a log. -/
def openL (d : DiskM) (first n : Int) : Option LogM × Int :=
  if d.dead then (none, 9)
  else if n < 2 ∨ first < 0 ∨ (d.pages.length : Int) - n < first then (none, 1)
  else if newest (seenPages d first.toNat n.toNat) = BitVec.allOnes 64 then (none, 2)
  else (some (ofPages first.toNat (seenPages d first.toNat n.toNat)), 0)
def room (l : LogM) : Nat := 480 * (l.n - l.end')
def many (b : List UInt8) : Nat := max 1 ((b.length + 479) / 480)
def part (b : List UInt8) (i : Nat) : List UInt8 := (b.drop (480 * i)).take 480

/-! ### The acts: each on a log and its disk -/
def head (s : LogM × DiskM) : (LogM × DiskM) × Int :=
  let l := { s.1 with stamp := s.1.stamp + 1#64 }
  let r := s.2.write l.first (LeafM.page ⟨l.stamp, 0, 0, []⟩)
  if r.2 ≠ 0 then ((l, r.1), r.2) else ((l, r.1.sync.1), r.1.sync.2)
/-- The leaves from number i on are written. -/
def put (l : LogM) (of' : Nat) (b : List UInt8) : Nat → Nat → DiskM → DiskM × Int
  | 0, _, d => (d, 0)
  | k + 1, i, d =>
    let r := d.write ((l.first + l.end' + i : Nat) : Int) (LeafM.page ⟨l.stamp, i, of', part b i⟩)
    if r.2 ≠ 0 then r else put l of' b k (i + 1) r.1
def step1 (b : List UInt8) (s : LogM × DiskM) : (LogM × DiskM) × Int := if s.1.n - s.1.end' < many b then (s, 4) else (s, 0)
def step2 (s : LogM × DiskM) : (LogM × DiskM) × Int :=
  if s.1.headed then (s, 0) else
    let r := head s
    (({ r.1.1 with headed := r.2 == 0 }, r.1.2), r.2)
def step3 (b : List UInt8) (s : LogM × DiskM) : (LogM × DiskM) × Int :=
  let l := { s.1 with stamp := s.1.stamp + 1#64 }
  let r := put l (many b) b (many b) 0 s.2
  if r.2 ≠ 0 then ((l, r.1), r.2) else ((l, r.1.sync.1), r.1.sync.2)
def step4 (b : List UInt8) (s : LogM × DiskM) : (LogM × DiskM) × Int := (({ s.1 with records := s.1.records ++ [b], end' := s.1.end' + many b }, s.2), 0)
def reset2 (s : LogM × DiskM) : (LogM × DiskM) × Int := (({ s.1 with headed := true, records := [], end' := 1 }, s.2), 0)
def steps : List ((LogM × DiskM) → (LogM × DiskM) × Int) → (LogM × DiskM) → (LogM × DiskM) × Int
  | [], s => (s, 0)
  | f :: r, s => if (f s).2 ≠ 0 then (({ (f s).1.1 with dead := (f s).1.1.dead || (f s).2 == 9 }, (f s).1.2), (f s).2) else steps r (f s).1
def alive (fs : List ((LogM × DiskM) → (LogM × DiskM) × Int)) (s : LogM × DiskM) : (LogM × DiskM) × Int :=
  if s.1.dead || s.2.dead then (s, 9) else steps fs s
def commit (b : List UInt8) (s : LogM × DiskM) : (LogM × DiskM) × Int := alive [step1 b, step2, step3 b, step4 b] s
def reset (s : LogM × DiskM) : (LogM × DiskM) × Int := alive [head, reset2] s
end LogM
end Go.Proofs.YtfgggkheadfiaaaR
