/- Contract of the laws' own 'does': an act on a disk. -/
import Derived.Test.YtfgggkheadfiaaaRLaw07e
namespace Go.Proofs.YtfgggkheadfiaaaR
open Go Go.RowKit
attribute [local go_sem ↓] Go.wp_at_zero Go.wp_at_succ

def DiskM.does7 (d : DiskM) (a : Act7) : DiskM × Int :=
  if a.do_ % 6 = 0 then d.write a.at' a.sheet
  else if a.do_ % 6 = 1 then d.sync
  else if a.do_ % 6 = 2 then (d.fuse a.at', 0)
  else if a.do_ % 6 = 3 then (d.kill, 0)
  else if a.do_ % 6 = 4 then (d.restart a.fates, 0)
  else d.write a.at' (List.replicate a.b.toNat 0)

theorem zeros_bvs (n : Nat) : (List.replicate n [Value.int .u8 0]).flatten = bvs (List.replicate n 0) := by
  induction n with
  | zero => rfl
  | succ n ih => rw [List.replicate_succ, List.replicate_succ, List.flatten_cons, ih]; rfl

/-- New zeros. -/
theorem bytes_zeros (w : World) (o : Own) (n : Nat) (hn : n ≤ 9223372036854775807) : Bytes (w.alloc (.cells (bvs (List.replicate n 0)).toArray 5)) (tagAt o w.heap.size (0, 0)) (.slice (some ⟨w.heap.size, 0, none⟩) n n) (List.replicate n 0) :=
  .inr ⟨w.heap.size, 0, n, by rw [List.length_replicate], by simp, by simp only [maxLen]; exact hn, by rw [tagAt_same], by simp, range_whole (heap_alloc_new w _)⟩

set_option maxRecDepth 100000 in
set_option maxHeartbeats 3200000 in
theorem does7_any {w : World} {o : Own} {D p : Nat} {d : DiskM} (h : DiskAt w o D p d) (hD : D ≠ 0) (hrow : d.row.length ≤ 1000000) (a : Act7) (hok : a.ok) (hi : Ints w o a.fv a.fates) :
    Calls Try.prog 31 #[.pointer (some ⟨p, 0, none⟩), .agg a.cells.toArray] w (Ret (Only D) w o fun v w' o' => v = .int .i64 (d.does7 a).2 ∧ DiskAt w' o' D p (d.does7 a).1) := by
  obtain ⟨⟨x0, x1⟩, ⟨y0, y1⟩, ⟨b0, b1⟩, ⟨s0, s1⟩, hfw⟩ := hok
  have hN : ¬ Only D 0 := fun h => hD h.symm
  have hs0 : Step Nobody w o (w.alloc (.cells a.cells.toArray 43)) (tagAt o w.heap.size (0, 0)) := (Step.refl _ w o).alloc _ _
  have hd := h.step hs0 (fun x => x)
  have hi2 : Ints (w.alloc (.cells a.cells.toArray 43)) (tagAt o w.heap.size (0, 0)) a.fv a.fates := hi.step hs0 (fun x => x)
  have hbx : (w.alloc (.cells a.cells.toArray 43)).heap[w.heap.size]? = some (.cells a.cells.toArray 43 (0, 0)) := heap_alloc_new w _
  have hbt : tagAt o w.heap.size (0, 0) w.heap.size = (0, 0) := tagAt_same _ _ _
  have hbl := lt_of_block hbx
  have hst := hs0.only D
  have hsh : a.sheet = sheetL (UInt8.ofNat a.b.toNat) (UInt8.ofNat a.st.toNat) 512 := rfl
  have hdo : Hid (∀ r, a.do_ % 6 = r → d.does7 a = if r = 0 then d.write a.at' a.sheet else if r = 1 then d.sync else if r = 2 then (d.fuse a.at', 0) else if r = 3 then (d.kill, 0) else if r = 4 then (d.restart a.fates, 0) else d.write a.at' (List.replicate a.b.toNat 0)) :=
    fun r hr => by subst hr; rfl
  obtain ⟨ra, rc, hfv⟩ := slc_form hi
  have hcl : a.cells = [.int .u8 a.do_, .int .i64 a.at', .int .u8 a.b, .int .u8 a.st, .slice ra a.fates.length rc] := by rw [← hfv]; rfl
  rw [hcl] at hs0 hd hi2 hbx hbl hst ⊢
  rw [hfv] at hi2
  have hshH := hidden hsh
  have hfwH := hidden hfw
  clear hcl hfv hi hsh hfw hs0 h
  generalize d.does7 a = dd at *
  generalize a.sheet = sh at *
  obtain ⟨x, y, b, s, fv, fs⟩ := a
  simp only at *
  have c1 := cell_of_block hbx 1
  have c2 := cell_of_block hbx 2
  have c3 := cell_of_block hbx 3
  simp only [List.getElem?_cons_succ, List.getElem?_cons_zero] at c1 c2 c3
  have hr : x % 6 = 0 ∨ x % 6 = 1 ∨ x % 6 = 2 ∨ x % 6 = 3 ∨ x % 6 = 4 ∨ x % 6 = 5 := by omega
  rcases hr with hr | hr | hr | hr | hr | hr
  · obtain rfl := hdo.out _ hr
    simp only [if_true]
    go_enter Try.func31, Try.ntmps31
    go_wp2_with fail
    generalize hW0 : w.alloc (.cells #[.int .u8 x, .int .i64 y, .int .u8 b, .int .u8 s, .slice ra fs.length rc] 43) = W0 at *
    have hdr : Step Nobody W0 (tagAt o w.heap.size (0, 0)) W0.drew (tagAt o w.heap.size (0, 0)) := (Step.refl _ _ _).drew
    have hd := hd.step hdr (fun x => x)
    have hst := hst.drew
    have hbx : W0.drew.heap[w.heap.size]? = _ := hbx
    refine wp_region_need (fun w' => w'.cell? ⟨w.heap.size, 1, none⟩ = some (.int .i64 y) ∧ w'.cell? ⟨w.heap.size, 2, none⟩ = some (.int .u8 b) ∧ w'.cell? ⟨w.heap.size, 3, none⟩ = some (.int .u8 s)) (fun _ => true) (by kernel_rfl) ⟨c1, c2, c3⟩ (fun hHeld => ?_)
    refine wpAnyN_take (i := 0) (v := ?_) rfl (by kernel_rfl) (by kernel_rfl) (by kernel_rfl) (by kernel_rfl) (fun _ _ _ h => h) (Or.inl ⟨by rfl, ?_⟩) (by assumption) ?_
    rotate_left
    · intro w hSw; ((try dsimp only at hSw); go_simp; (try with_reducible rfl))
    simp only [Act.put, List.setIfInBounds_toArray, List.set_cons_zero, List.set_cons_succ]
    refine wpAnyN_take (i := 1) (v := ?_) rfl (by kernel_rfl) (by kernel_rfl) (by kernel_rfl) (by kernel_rfl) (fun _ _ _ h => h) (Or.inl ⟨by rfl, ?_⟩) (by assumption) ?_
    rotate_left
    · intro w hSw; ((try dsimp only at hSw); go_simp; (try with_reducible rfl))
    simp only [Act.put, List.setIfInBounds_toArray, List.set_cons_zero, List.set_cons_succ]
    refine wpAnyN_take (i := 2) (v := ?_) rfl (by kernel_rfl) (by kernel_rfl) (by kernel_rfl) (by kernel_rfl) (fun _ _ _ h => h) (Or.inl ⟨by rfl, ?_⟩) (by assumption) ?_
    rotate_left
    · intro w hSw; ((try dsimp only at hSw); go_simp; (try with_reducible rfl))
    simp only [Act.put, List.setIfInBounds_toArray, List.set_cons_zero, List.set_cons_succ]
    refine wpAnyN_take (i := 3) (v := ?_) rfl (by kernel_rfl) (by kernel_rfl) (by kernel_rfl) (by kernel_rfl) (fun _ _ _ h => h) (Or.inl ⟨by rfl, ?_⟩) (by assumption) ?_
    rotate_left
    · intro w hSw; ((try dsimp only at hSw); go_simp; (try with_reducible rfl))
    simp only [Act.put, List.setIfInBounds_toArray, List.set_cons_zero, List.set_cons_succ]
    refine wpAnyN_take (i := 4) (v := ?_) rfl (by kernel_rfl) (by kernel_rfl) (by kernel_rfl) (by kernel_rfl) (fun _ _ _ h => h) (Or.inl ⟨by rfl, ?_⟩) (by assumption) ?_
    rotate_left
    · intro w hSw; ((try dsimp only at hSw); go_simp; (try with_reducible rfl))
    simp only [Act.put, List.setIfInBounds_toArray, List.set_cons_zero, List.set_cons_succ]
    refine wpAnyN_take (i := 5) (v := ?_) rfl (by kernel_rfl) (by kernel_rfl) (by kernel_rfl) (by kernel_rfl) (fun _ _ _ h => h) (Or.inl ⟨by rfl, ?_⟩) (by assumption) ?_
    rotate_left
    · intro w hSw; ((try dsimp only at hSw); go_simp; (try with_reducible rfl))
    simp only [Act.put, List.setIfInBounds_toArray, List.set_cons_zero, List.set_cons_succ]
    refine wpAnyN_take (i := 6) (v := ?_) rfl (by kernel_rfl) (by kernel_rfl) (by kernel_rfl) (by kernel_rfl) (fun _ _ _ h => h) (Or.inl ⟨by rfl, ?_⟩) (by assumption) ?_
    rotate_left
    · intro w hSw; ((try dsimp only at hSw); go_simp; (try with_reducible rfl))
    simp only [Act.put, List.setIfInBounds_toArray, List.set_cons_zero, List.set_cons_succ]
    refine wpAnyN_one (i := 7) rfl (by kernel_rfl) ?_
    go_wp2_with fail
    refine (sheet_int b s ⟨b0, b1⟩ ⟨s0, s1⟩ _ (tagAt o w.heap.size (0, 0))).mono ?_; rintro e wc ⟨v, oc, rfl, hs, hb⟩; have hb := hb.bytes; have hd := hd.step hs (fun x => x); have hst := hst.trans (hs.only D)
    have e1 := hs.block w.heap.size hbl (fun x => x)
    have hbl2 := Nat.lt_of_lt_of_le hbl hs.size
    have hot : oc w.heap.size = (0, 0) := by rw [hs.own _ hbl]; exact hbt
    go_wp2_with fail
    have hS1 : wc.cell? ⟨w.heap.size, 1, none⟩ = some (.int .i64 y) ∧ wc.cell? ⟨w.heap.size, 2, none⟩ = some (.int .u8 b) ∧ wc.cell? ⟨w.heap.size, 3, none⟩ = some (.int .u8 s) :=
      ⟨by rw [World.cell?_of_block (a := ⟨w.heap.size, 1, none⟩) e1]; exact hHeld.1, by rw [World.cell?_of_block (a := ⟨w.heap.size, 2, none⟩) e1]; exact hHeld.2.1, by rw [World.cell?_of_block (a := ⟨w.heap.size, 3, none⟩) e1]; exact hHeld.2.2⟩
    refine ⟨fun _ => hS1, ?_⟩
    rw [← hshH.out] at hb
    refine wpAnyN_one (i := 8) rfl (by kernel_rfl) ?_
    go_wp2_with fail
    refine (write_any hd hD _ _ _ hb hrow).mono ?_; rintro e wd ⟨v2, od, rfl, hs2, rfl, hd⟩; have hst := hst.trans hs2
    have e2 := hs2.block w.heap.size hbl2 (by rw [hot]; exact hN)
    go_wp2_with fail
    have hS2 : wd.cell? ⟨w.heap.size, 1, none⟩ = some (.int .i64 y) ∧ wd.cell? ⟨w.heap.size, 2, none⟩ = some (.int .u8 b) ∧ wd.cell? ⟨w.heap.size, 3, none⟩ = some (.int .u8 s) :=
      ⟨by rw [World.cell?_of_block (a := ⟨w.heap.size, 1, none⟩) e2]; exact hS1.1, by rw [World.cell?_of_block (a := ⟨w.heap.size, 2, none⟩) e2]; exact hS1.2.1, by rw [World.cell?_of_block (a := ⟨w.heap.size, 3, none⟩) e2]; exact hS1.2.2⟩
    refine ⟨fun _ => hS2, ?_⟩
    refine wpAnyN_one (i := 9) rfl (by kernel_rfl) ?_
    go_wp2_with fail
    refine ⟨fun _ => hS2, ?_⟩
    refine wpAnyN_done (by kernel_rfl) ?_ _
    go_wp2_with fail
    go_ret
    exact ⟨_, od, rfl, hst, rfl, hd⟩
  · obtain rfl := hdo.out _ hr
    simp only [show ¬ ((1 : Int) = 0) from by omega, if_false, if_true]
    go_enter Try.func31, Try.ntmps31
    go_wp2_with fail
    refine (sync_any hd hrow).mono ?_; rintro e wc ⟨v, oc, rfl, hs, rfl, hd⟩; have hst := hst.trans hs
    go_wp2_with fail
    go_ret
    exact ⟨_, oc, rfl, hst, rfl, hd⟩
  · obtain rfl := hdo.out _ hr
    simp only [show ¬ ((2 : Int) = 0) from by omega, show ¬ ((2 : Int) = 1) from by omega, if_false, if_true]
    go_enter Try.func31, Try.ntmps31
    go_wp2_with fail
    refine (fuse_any hd _ y1).mono ?_; rintro e wc ⟨v, oc, rfl, hs, rfl, hd⟩; have hst := hst.trans hs
    go_wp2_with fail
    go_ret
    exact ⟨_, oc, rfl, hst, rfl, hd⟩
  · obtain rfl := hdo.out _ hr
    simp only [show ¬ ((3 : Int) = 0) from by omega, show ¬ ((3 : Int) = 1) from by omega, show ¬ ((3 : Int) = 2) from by omega, if_false, if_true]
    go_enter Try.func31, Try.ntmps31
    go_wp2_with fail
    refine (kill_any hd).mono ?_; rintro e wc ⟨v, oc, rfl, hs, rfl, hd⟩; have hst := hst.trans hs
    go_wp2_with fail
    go_ret
    exact ⟨_, oc, rfl, hst, rfl, hd⟩
  · obtain rfl := hdo.out _ hr
    simp only [show ¬ ((4 : Int) = 0) from by omega, show ¬ ((4 : Int) = 1) from by omega, show ¬ ((4 : Int) = 2) from by omega, show ¬ ((4 : Int) = 3) from by omega, if_false, if_true]
    go_enter Try.func31, Try.ntmps31
    go_wp2_with fail
    refine (restart_any hd hD hrow _ _ hi2 hfwH.out).mono ?_; rintro e wc ⟨v, oc, rfl, hs, rfl, hd⟩; have hst := hst.trans hs
    go_wp2_with fail
    go_ret
    exact ⟨_, oc, rfl, hst, rfl, hd⟩
  · obtain rfl := hdo.out _ hr
    simp only [show ¬ ((5 : Int) = 0) from by omega, show ¬ ((5 : Int) = 1) from by omega, show ¬ ((5 : Int) = 2) from by omega, show ¬ ((5 : Int) = 3) from by omega, show ¬ ((5 : Int) = 4) from by omega, if_false]
    obtain ⟨bn, rfl⟩ := Int.eq_ofNat_of_zero_le b0
    rw [Int.toNat_natCast]
    go_enter Try.func31, Try.ntmps31
    go_wp2_with fail
    generalize hW0 : w.alloc (.cells #[.int .u8 x, .int .i64 y, .int .u8 (bn : Int), .int .u8 s, .slice ra fs.length rc] 43) = W0 at *
    have hdr : Step Nobody W0 (tagAt o w.heap.size (0, 0)) W0.drew (tagAt o w.heap.size (0, 0)) := (Step.refl _ _ _).drew
    have hd := hd.step hdr (fun x => x)
    have hst := hst.drew
    have hbx : W0.drew.heap[w.heap.size]? = _ := hbx
    refine wp_region_need (fun w' => w'.cell? ⟨w.heap.size, 1, none⟩ = some (.int .i64 y) ∧ w'.cell? ⟨w.heap.size, 2, none⟩ = some (.int .u8 (bn : Int))) (fun _ => true) (by kernel_rfl) ⟨c1, c2⟩ (fun hHeld => ?_)
    refine wpAnyN_take (i := 0) (v := ?_) rfl (by kernel_rfl) (by kernel_rfl) (by kernel_rfl) (by kernel_rfl) (fun _ _ _ h => h) (Or.inl ⟨by rfl, ?_⟩) (by assumption) ?_
    rotate_left
    · intro w hSw; ((try dsimp only at hSw); go_simp; (try with_reducible rfl))
    simp only [Act.put, List.setIfInBounds_toArray, List.set_cons_zero, List.set_cons_succ]
    refine wpAnyN_take (i := 1) (v := ?_) rfl (by kernel_rfl) (by kernel_rfl) (by kernel_rfl) (by kernel_rfl) (fun _ _ _ h => h) (Or.inl ⟨by rfl, ?_⟩) (by assumption) ?_
    rotate_left
    · intro w hSw; ((try dsimp only at hSw); go_simp; (try with_reducible rfl))
    simp only [Act.put, List.setIfInBounds_toArray, List.set_cons_zero, List.set_cons_succ]
    refine wpAnyN_take (i := 2) (v := ?_) rfl (by kernel_rfl) (by kernel_rfl) (by kernel_rfl) (by kernel_rfl) (fun _ _ _ h => h) (Or.inl ⟨by rfl, ?_⟩) (by assumption) ?_
    rotate_left
    · intro w hSw; ((try dsimp only at hSw); go_simp; (try with_reducible rfl))
    simp only [Act.put, List.setIfInBounds_toArray, List.set_cons_zero, List.set_cons_succ]
    refine wpAnyN_take (i := 3) (v := ?_) rfl (by kernel_rfl) (by kernel_rfl) (by kernel_rfl) (by kernel_rfl) (fun _ _ _ h => h) (Or.inl ⟨by rfl, ?_⟩) (by assumption) ?_
    rotate_left
    · intro w hSw; ((try dsimp only at hSw); go_simp; (try with_reducible rfl))
    simp only [Act.put, List.setIfInBounds_toArray, List.set_cons_zero, List.set_cons_succ]
    refine wpAnyN_take (i := 4) (v := ?_) rfl (by kernel_rfl) (by kernel_rfl) (by kernel_rfl) (by kernel_rfl) (fun _ _ _ h => h) (Or.inl ⟨by rfl, ?_⟩) (by assumption) ?_
    rotate_left
    · intro w hSw; ((try dsimp only at hSw); go_simp; (try with_reducible rfl))
    simp only [Act.put, List.setIfInBounds_toArray, List.set_cons_zero, List.set_cons_succ]
    have hmk := run_make_zero (P := Try.prog) W0.drew 28 5 _ 1 1 Try.underlying28 inf5 rfl bn (by omega) (by omega) .u8 .u8
    rw [zeros_bvs] at hmk
    have hs : Step Nobody W0.drew (tagAt o w.heap.size (0, 0)) _ _ := (Step.refl _ _ _).alloc (.cells (bvs (List.replicate bn 0)).toArray 5) (0, 0)
    have hb := bytes_zeros W0.drew (tagAt o w.heap.size (0, 0)) bn (by omega)
    have hd := hd.step hs (fun x => x); have hst := hst.trans (hs.only D)
    have e1 := hs.block w.heap.size hbl (fun x => x)
    have hbl2 := Nat.lt_of_lt_of_le hbl hs.size
    have hot := (hs.own _ hbl).trans hbt
    have hS1 : (W0.drew.alloc (.cells (bvs (List.replicate bn 0)).toArray 5)).cell? ⟨w.heap.size, 1, none⟩ = some (.int .i64 y) ∧ (W0.drew.alloc (.cells (bvs (List.replicate bn 0)).toArray 5)).cell? ⟨w.heap.size, 2, none⟩ = some (.int .u8 (bn : Int)) :=
      ⟨by rw [World.cell?_of_block (a := ⟨w.heap.size, 1, none⟩) e1]; exact hHeld.1, by rw [World.cell?_of_block (a := ⟨w.heap.size, 2, none⟩) e1]; exact hHeld.2⟩
    refine wpAnyN_one (i := 5) rfl (by kernel_rfl) ?_
    refine wpList_run rfl (exec_makeSlice 28 (.tmp 45) (.tmp 45) rfl hmk) ?_
    refine wpList_nil ?_
    simp only [Act.put, List.setIfInBounds_toArray, List.set_cons_zero, List.set_cons_succ]
    refine ⟨fun _ => hS1, ?_⟩
    clear hmk
    generalize hW1 : W0.drew.alloc (.cells (bvs (List.replicate bn 0)).toArray 5) = W1 at *
    refine wpAnyN_one (i := 6) rfl (by kernel_rfl) ?_
    go_wp2_with fail
    refine (write_any hd hD _ _ _ hb hrow).mono ?_; rintro e wd ⟨v2, od, rfl, hs2, rfl, hd⟩; have hst := hst.trans hs2
    have e2 := hs2.block w.heap.size hbl2 (by rw [hot]; exact hN)
    go_wp2_with fail
    have hS2 : wd.cell? ⟨w.heap.size, 1, none⟩ = some (.int .i64 y) ∧ wd.cell? ⟨w.heap.size, 2, none⟩ = some (.int .u8 (bn : Int)) :=
      ⟨by rw [World.cell?_of_block (a := ⟨w.heap.size, 1, none⟩) e2]; exact hS1.1, by rw [World.cell?_of_block (a := ⟨w.heap.size, 2, none⟩) e2]; exact hS1.2⟩
    refine ⟨fun _ => hS2, ?_⟩
    refine wpAnyN_one (i := 7) rfl (by kernel_rfl) ?_
    go_wp2_with fail
    refine ⟨fun _ => hS2, ?_⟩
    refine wpAnyN_done (by kernel_rfl) ?_ _
    go_wp2_with fail
    go_ret
    exact ⟨_, od, rfl, hst, rfl, hd⟩
end Go.Proofs.YtfgggkheadfiaaaR
