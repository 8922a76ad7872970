/- Contracts of the disk: New, Write. -/
import Derived.Test.YtfgggkheadfiaaaRDisk1
import Derived.Test.YtfgggkheadfiaaaRBuild
import Derived.Test.YtfgggkheadfiaaaRAny
import Derived.Deep.DrawnRows
namespace Go.Proofs.YtfgggkheadfiaaaR
open Go Go.RowKit
attribute [local go_sem ↓] Go.wp_at_zero Go.wp_at_succ

/-- The zeros of a page, and of an entry of the row. -/
def zero512 : List Value := List.replicate 512 (.int .u8 0)
def zero513 : List Value := .int .i64 0 :: zero512
theorem length_zero512 : zero512.length = 512 := List.length_replicate ..
theorem length_zero513 : zero513.length = 513 := by rw [zero513, List.length_cons, length_zero512]
theorem inf127 : (Try.prog.info? 127).map (fun i => (i.zero.map (fun z => z.cells.toList), i.size, i.bytes)) = some (some zero512, 512, 512) := by kernel_rfl
theorem inf129 : (Try.prog.info? 129).map (fun i => (i.zero.map (fun z => z.cells.toList), i.size, i.bytes)) = some (some zero513, 513, 520) := by kernel_rfl

theorem zero512_bvs : zero512 = bvs DiskM.blank := by
  unfold zero512 bvs DiskM.blank
  rw [List.map_replicate]; rfl
theorem blank_cells (n : Nat) : (List.replicate n zero512).flatten = bvs (List.replicate n DiskM.blank).flatten := by
  rw [zero512_bvs]
  generalize DiskM.blank = b
  induction n with
  | zero => rfl
  | succ n ih => rw [List.replicate_succ, List.replicate_succ, List.flatten_cons, List.flatten_cons, bvs_append, ih]
theorem length_blank : DiskM.blank.length = 512 := List.length_replicate ..

set_option maxHeartbeats 400000 in
theorem new_bad (n : Int) (w : World) (_o : Own) (h : n < 1 ∨ 4096 < n) :
    Calls Try.prog 20 #[.int .i64 n] w fun e w' => e = .returned (.tuple #[.pointer none, .int .i64 1]) ∧ w = w' := by
  rcases h with h | h
  · go_enter Try.func20, Try.ntmps20
    go_wp2
    go_ret2
    exact ⟨rfl, rfl⟩
  · have h' : ¬ n < 1 := by omega
    go_enter Try.func20, Try.ntmps20
    go_wp2
    go_ret2
    exact ⟨rfl, rfl⟩

theorem new_at (w : World) (o : Own) (D n : Nat) (h1 : 1 ≤ n) (h2 : n ≤ 4096) :
    DiskAt ((w.alloc (.cells (List.replicate n zero512).flatten.toArray 127)).alloc (.cells #[.slice (some ⟨w.heap.size, 0, none⟩) n n, .slice none 0 0, .int .i64 (-1), .bool false] 123))
      (tagAt (tagAt o w.heap.size (D, 1)) (w.heap.size + 1) (D, 0)) D (w.heap.size + 1) (DiskM.new n) := by
  refine ⟨w.heap.size, .slice none 0 0, ?_, ?_, ?_, by simp, ?_, ?_, ?_⟩
  · rw [heap_alloc2_new]; simp [DiskM.new]
  · rw [heap_alloc2_old, blank_cells]; rfl
  · exact World.ownsRow_nil _ _ _ _
  · rw [tagAt_other _ _ (by omega)]; simp
  · intro k hk; simp [Value.ownBlock] at hk
  · refine ⟨by simpa [DiskM.new] using h1, by simpa [DiskM.new] using h2, ?_, by simp [DiskM.new], by simp [DiskM.new], by simp [DiskM.new]⟩
    intro p hp
    simp only [DiskM.new] at hp
    rw [List.eq_of_mem_replicate hp]; exact length_blank

set_option maxHeartbeats 400000 in
set_option maxRecDepth 100000 in
theorem new_ok (n : Nat) (w : World) (o : Own) (D : Nat) (h1 : 1 ≤ n) (h2 : n ≤ 4096) :
    Calls Try.prog 20 #[.int .i64 (n : Int)] w (Ret Nobody w o fun v w' o' => ∃ p, w.heap.size ≤ p ∧ v = .tuple #[.pointer (some ⟨p, 0, none⟩), .int .i64 0] ∧ DiskAt w' o' D p (DiskM.new n)) := by
  have hmk := run_make_zero (P := Try.prog) w 120 127 _ 512 512 Try.underlying120 inf127 length_zero512 n (by omega) (by omega) .i64 .i64
  have hs : Step Nobody w o _ _ := ((Step.refl Nobody w o).alloc (.cells (List.replicate n zero512).flatten.toArray 127) (D, 1)).alloc (.cells #[.slice (some ⟨w.heap.size, 0, none⟩) n n, .slice none 0 0, .int .i64 (-1), .bool false] 123) (D, 0)
  have hd := new_at w o D n h1 h2
  generalize (List.replicate n zero512).flatten = cs at *
  go_enter Try.func20, Try.ntmps20
  go_wp2
  go_ret2
  exact ⟨_, tagAt (tagAt o w.heap.size (D, 1)) (w.heap.size + 1) (D, 0), rfl, by simpa using hs, w.heap.size + 1, by omega, rfl, hd⟩

theorem z129 : ((Try.prog.info? 129).bind (·.zero)).map (fun z => z.cells.toList) = some zero513 := by kernel_rfl
theorem s3 : (Try.prog.info? 3).map (·.size) = some 1 := by kernel_rfl
theorem s127 : (Try.prog.info? 127).map (·.size) = some 512 := by kernel_rfl
theorem zs129 : (Try.prog.info? 129).map (fun i => (i.zero.map (fun z => z.cells.toList), i.size)) = some (some zero513, 513) := by kernel_rfl
theorem build129 (w : World) (n : Int) (l : List UInt8) (hl : l.length = 512) :
    (Instr.build 129 #[(0, .int .i64 n), (1, .agg (bvs l).toArray)]).run Try.prog w = .ok (.agg (Value.int .i64 n :: bvs l).toArray) w := by
  have h1 : (Try.prog.info? 127).map (·.size) = some (bvs l).length := by rw [length_bvs, hl]; exact s127
  have h2 : zero513.length = [Value.int .i64 n].length + (bvs l).length := by rw [length_bvs, hl, length_zero513]; rfl
  have := run_build_two w 129 _ _ zero513 (.int .i64 n) (.agg (bvs l).toArray) [.int .i64 n] (bvs l) Try.underlying129 z129 rfl rfl s3 h1 h2 rfl rfl
  rw [List.singleton_append] at this
  exact this
theorem buildSlice121 (w : World) (n : Int) (l : List UInt8) (hl : l.length = 512) :
    (Instr.buildSlice 121 1 #[(0, .agg (Value.int .i64 n :: bvs l).toArray)]).run Try.prog w = .ok (.slice (some ⟨w.heap.size, 0, none⟩) 1 1) (w.alloc (.cells (Value.int .i64 n :: bvs l).toArray 129)) := by
  have hc : (Value.int .i64 n :: bvs l).length = 513 := by rw [List.length_cons, length_bvs, hl]
  have hz : (Try.prog.info? 129).map (fun i => (i.zero.map (fun z => z.cells.toList), i.size)) = some (some zero513, (Value.int .i64 n :: bvs l).length) := by rw [hc]; exact zs129
  have hz2 : zero513.length = (Value.int .i64 n :: bvs l).length := by rw [hc, length_zero513]
  exact run_buildSlice_one w 121 129 zero513 (.agg (Value.int .i64 n :: bvs l).toArray) (Value.int .i64 n :: bvs l) Try.underlying121 hz hz2 (by omega) (by omega) rfl
theorem toArr127 (w : World) (a : Addr) (n c : Nat) (h : n = 512) : (Instr.arrayAt 127 (.slice (some a) n c)).run Try.prog w = .ok (.pointer (some a)) w := by
  subst h
  simp [Instr.arrayAt, run_underlying Try.underlying127]

/-- The last write of the row has come: what of the disk. -/
theorem DiskAt.pushed {w' : World} {o' : Own} {D p : Nat} {d : DiskM} {bl g cap : Nat} {rv : Value} {at' : Nat} {l : List UInt8} (hwf : d.wf) (ha : at' < d.pages.length) (hl : l.length = 512)
    (hp : w'.heap[p]? = some (.cells #[.slice (some ⟨bl, 0, none⟩) d.pages.length d.pages.length, rv, .int .i64 d.left, .bool d.dead] 123 (0, 0)))
    (hbl : w'.heap[bl]? = some (.cells (bvs d.pages.flatten).toArray 127 (0, 0)))
    (hown : w'.ownsRow 0 129 513 (.slice (some ⟨g, 0, none⟩) (d.row.length + 1) cap) (d.row.length + 1) (rowCells d.row ++ (.int .i64 (at' : Int) :: bvs l)))
    (op : o' p = (D, 0)) (ol : o' bl = (D, 1)) (og : o' g = (D, 2)) :
    DiskAt (w'.setCell ⟨p, 1, none⟩ (.slice (some ⟨g, 0, none⟩) (d.row.length + 1) cap)) o' D p { d with row := d.row ++ [(at', l)] } := by
  refine ⟨bl, .slice (some ⟨g, 0, none⟩) (d.row.length + 1) cap, heap_setCell_at _ hp, ?_, ?_, op, ol, ?_, ?_⟩
  · rw [Below.heap_setCell _ _ _ _ (by rintro rfl; rw [op] at ol; simp at ol)]; exact hbl
  · have : (d.row ++ [(at', l)]).length = d.row.length + 1 := by simp
    rw [this, rowCells_snoc]
    refine ownsRow_same hown fun k hk => Below.heap_setCell _ _ _ _ ?_
    simp only [Value.ownBlock, Option.some.injEq] at hk
    subst hk
    rintro rfl; rw [op] at og; simp at og
  · intro k hk
    simp only [Value.ownBlock, Option.some.injEq] at hk
    subst hk; exact og
  · obtain ⟨h1, h2, h3, h4, h5, h6⟩ := hwf
    refine ⟨h1, h2, h3, ?_, h5, h6⟩
    intro x hx
    rcases List.mem_append.1 hx with hx | hx
    · exact h4 x hx
    · simp only [List.mem_singleton] at hx; subst hx; exact ⟨ha, hl⟩

/-- What was wrong already is handed on (whatever the disk is). -/
theorem counted_pass (v : Value) (n : Int) (w : World) (hn : (n != 0) = true) : Calls Try.prog 67 #[v, .int .i64 n] w fun e w' => e = .returned (.int .i64 n) ∧ w = w' := by
  go_enter Try.func67, Try.ntmps67
  go_wp2
  go_ret
  exact ⟨rfl, rfl⟩

/-- 'e' is what the test of a call's arguments comes to. -/
theorem asked_is {w : World} {o : Own} {D p : Nat} {d : DiskM} (h : DiskAt w o D p d) (at' n e : Int) (he : Hid (d.asked at' n = e)) :
    Calls Try.prog 68 #[.pointer (some ⟨p, 0, none⟩), .int .i64 at', .int .i64 n] w fun r w' => r = .returned (.int .i64 e) ∧ w = w' := by
  rw [← he.out]; exact asked_any h at' n
theorem counted_is {w : World} {o : Own} {D p : Nat} {d d1 : DiskM} {e1 : Int} (h : DiskAt w o D p d) (n : Int) (he : Hid (d.counted n = (d1, e1))) :
    Calls Try.prog 67 #[.pointer (some ⟨p, 0, none⟩), .int .i64 n] w (Ret (Only D) w o fun v w' o' => v = .int .i64 e1 ∧ DiskAt w' o' D p d1) := by
  have := counted_any h n
  rw [he.out] at this; exact this

set_option maxRecDepth 100000 in
set_option maxHeartbeats 800000 in
theorem write_no {w : World} {o : Own} {D p : Nat} {d : DiskM} (h : DiskAt w o D p d) (at' : Int) (v : Value) (l : List UInt8) (hb : Bytes w o v l) (hc : (d.counted (d.asked at' l.length)).2 ≠ 0) :
    Calls Try.prog 22 #[.pointer (some ⟨p, 0, none⟩), .int .i64 at', v] w (Ret (Only D) w o fun v w' o' => v = .int .i64 (d.write at' l).2 ∧ DiskAt w' o' D p (d.write at' l).1) := by
  have hE : d.write at' l = d.counted (d.asked at' l.length) := by simp [DiskM.write, hc]
  rw [hE]
  obtain ⟨e, he⟩ : ∃ e, Hid (d.asked at' l.length = e) := ⟨_, rfl⟩
  rw [he.out] at hc ⊢
  obtain ⟨d1, e1, hd⟩ : ∃ d1 e1, Hid (d.counted e = (d1, e1)) := ⟨_, _, rfl⟩
  rw [hd.out] at hc ⊢
  have hc' : (e1 != 0) = true := by simpa using hc
  clear hc hE
  rcases hb.cases with ⟨⟨sa, sc, rfl⟩, rfl⟩ | ⟨b, off, cap, rfl, hl, hm, ho, hbs, hr⟩
  all_goals clear hb
  all_goals
    go_enter Try.func22, Try.ntmps22
    go_wp2_with (first | (go_at_call 68; refine (asked_is h _ _ _ he).mono ?_; rintro e w' ⟨rfl, rfl⟩) | (go_at_call 67; refine (counted_is h _ hd).mono ?_; rintro e w' ⟨v1, o1, rfl, hs1, rfl, hd1⟩))
    go_ret
    exact ⟨_, o1, rfl, hs1, rfl, hd1⟩

set_option maxRecDepth 100000 in
set_option maxHeartbeats 1600000 in
theorem write_yes {w : World} {o : Own} {D p : Nat} {d : DiskM} (h : DiskAt w o D p d) (hD : D ≠ 0) (at' : Int) (v : Value) (l : List UInt8) (hb : Bytes w o v l) (hrow : d.row.length ≤ 1000000) (hc : (d.counted (d.asked at' l.length)).2 = 0) :
    Calls Try.prog 22 #[.pointer (some ⟨p, 0, none⟩), .int .i64 at', v] w (Ret (Only D) w o fun v w' o' => v = .int .i64 (d.write at' l).2 ∧ DiskAt w' o' D p (d.write at' l).1) := by
  have hE : d.write at' l = ({ (d.counted (d.asked at' l.length)).1 with row := (d.counted (d.asked at' l.length)).1.row ++ [(at'.toNat, l)] }, 0) := by simp [DiskM.write, hc]
  rw [hE]
  have ha : d.asked at' l.length = 0 := by
    unfold DiskM.counted at hc
    split at hc
    · exact hc
    · rename_i hx; simp only [not_or, ne_eq, Decidable.not_not] at hx; exact hx.1
  have hal : 0 ≤ at' ∧ at' < d.pages.length ∧ l.length = 512 := by
    unfold DiskM.asked at ha
    split at ha
    · cases ha
    · split at ha
      · cases ha
      · rename_i hx; omega
  obtain ⟨a0, a1, hl512⟩ := hal
  obtain ⟨hpg, hrw⟩ := DiskM.counted_same d (d.asked at' l.length)
  obtain ⟨e, he⟩ : ∃ e, Hid (d.asked at' l.length = e) := ⟨_, rfl⟩
  rw [he.out] at hc hpg hrw ⊢
  obtain ⟨d1, e1, hd⟩ : ∃ d1 e1, Hid (d.counted e = (d1, e1)) := ⟨_, _, rfl⟩
  rw [hd.out] at hc hpg hrw ⊢
  simp only at hc hpg hrw ⊢
  subst hc
  clear hE ha
  rcases hb.cases with ⟨⟨sa, sc, rfl⟩, rfl⟩ | ⟨b, off, cap, rfl, hl, hm, ho, hbs, hr⟩
  · simp at hl512
  obtain ⟨n, rfl⟩ := Int.eq_ofNat_of_zero_le a0
  have ha1 : n < d1.pages.length := by rw [hpg]; omega
  have hrow1 : d1.row.length ≤ 1000000 := by rw [hrw]; exact hrow
  have HL := hidden hl512
  clear hl512 hpg hrw a1 hrow
  have hbd := fun w n => build129 w n l HL.out
  have hbs2 := fun w n => buildSlice121 w n l HL.out
  have hta := fun w => toArr127 w ⟨b, off, none⟩ l.length cap HL.out
  go_enter Try.func22, Try.ntmps22
  go_wp2_with (first | (go_at_call 68; refine (asked_is h _ _ _ he).mono ?_; rintro e w' ⟨rfl, rfl⟩) | (go_at_call 67; refine (counted_is h _ hd).mono ?_; rintro e w1 ⟨v1, o1, rfl, hs1, rfl, hd1⟩))
  have hwf1 := hd1.wf
  obtain ⟨bl, rv, ⟨c0, c1, c2, c3⟩, ⟨f1, f2, f3⟩, hbl, hown, op, ol, orr⟩ := hd1.open
  have hr1 : w1.rangeAt b off (bvs l) := range_same hr (hs1.block b hbs (by rw [ho]; exact fun h => hD h.symm))
  refine wp_region_need (fun w' => w'.cell? ⟨p, 1, none⟩ = some rv ∧ w'.rangeAt b off (bvs l)) (fun i => decide (i < 12)) (by kernel_rfl) ⟨c1, hr1⟩ (fun hHeld => ?_)
  refine wpAnyN_take (i := 0) (v := ?_) rfl (by kernel_rfl) (by kernel_rfl) (by kernel_rfl) (by kernel_rfl) (fun _ _ _ h => h) (Or.inl ⟨by rfl, ?_⟩) (by assumption) ?_
  rotate_left
  · intro w hSw; ((try dsimp only at hSw); go_simp; (try with_reducible rfl))
  simp only [Act.put, List.setIfInBounds_toArray, List.set_cons_zero, List.set_cons_succ]
  refine wpAnyN_take (i := 1) (v := ?_) rfl (by kernel_rfl) (by kernel_rfl) (by kernel_rfl) (by kernel_rfl) (fun _ _ _ h => h) (Or.inl ⟨by rfl, ?_⟩) (by assumption) ?_
  rotate_left
  · intro w hSw; ((try dsimp only at hSw); go_simp; (try with_reducible rfl))
  simp only [Act.put, List.setIfInBounds_toArray, List.set_cons_zero, List.set_cons_succ]
  refine wpAnyN_take (i := 2) (v := ?_) rfl (by kernel_rfl) (by kernel_rfl) (by kernel_rfl) (by kernel_rfl) (fun _ _ _ h => h) (Or.inl ⟨by rfl, ?_⟩) (by assumption) ?_
  rotate_left
  · intro w hSw; ((try dsimp only at hSw); go_simp; (try with_reducible rfl))
  simp only [Act.put, List.setIfInBounds_toArray, List.set_cons_zero, List.set_cons_succ]
  refine wpAnyN_take (i := 3) (v := ?_) rfl (by kernel_rfl) (by kernel_rfl) (by kernel_rfl) (by kernel_rfl) (fun _ _ _ h => h) (Or.inl ⟨by rfl, ?_⟩) (by assumption) ?_
  rotate_left
  · intro w hSw; ((try dsimp only at hSw); go_simp; (try with_reducible rfl))
  simp only [Act.put, List.setIfInBounds_toArray, List.set_cons_zero, List.set_cons_succ]
  refine wpAnyN_take (i := 4) (v := ?_) rfl (by kernel_rfl) (by kernel_rfl) (by kernel_rfl) (by kernel_rfl) (fun _ _ _ h => h) (Or.inl ⟨by rfl, ?_⟩) (by assumption) ?_
  rotate_left
  · intro w hSw; ((try dsimp only at hSw); go_simp; (try with_reducible rfl))
  simp only [Act.put, List.setIfInBounds_toArray, List.set_cons_zero, List.set_cons_succ]
  refine wpAnyN_take (i := 5) (v := ?_) rfl (by kernel_rfl) (by kernel_rfl) (by kernel_rfl) (by kernel_rfl) (fun _ _ _ h => h) (Or.inl ⟨by rfl, ?_⟩) (by assumption) ?_
  rotate_left
  · intro w hSw; ((try dsimp only at hSw); go_simp; (try with_reducible rfl))
  simp only [Act.put, List.setIfInBounds_toArray, List.set_cons_zero, List.set_cons_succ]
  refine wpAnyN_take (i := 6) (v := ?_) rfl (by kernel_rfl) (by kernel_rfl) (by kernel_rfl) (by kernel_rfl) (fun _ _ _ h => h) (Or.inl ⟨by rfl, ?_⟩) (by assumption) ?_
  rotate_left
  · intro w hSw; ((try dsimp only at hSw); go_simp; (try with_reducible rfl))
  simp only [Act.put, List.setIfInBounds_toArray, List.set_cons_zero, List.set_cons_succ]
  refine wpAnyN_take (i := 7) (v := ?_) rfl (by kernel_rfl) (by kernel_rfl) (by kernel_rfl) (by kernel_rfl) (fun _ _ _ h => h) (Or.inl ⟨by rfl, ?_⟩) (by assumption) ?_
  rotate_left
  · intro w hSw; ((try dsimp only at hSw); go_simp; (try with_reducible rfl))
  simp only [Act.put, List.setIfInBounds_toArray, List.set_cons_zero, List.set_cons_succ]
  have hi127 : (Try.prog.info? 127).map (·.size) = some (bvs l).length := by rw [length_bvs, HL.out]; exact s127
  refine wpAnyN_take (i := 8) (v := _) rfl (by kernel_rfl) (by kernel_rfl) (by kernel_rfl) (by kernel_rfl) (fun _ _ _ h => h) (yieldsIf_load_mid (by rfl) 127 (.tmp 25) rfl b off rfl (bvs l) _ (fun w h => h.2) Try.underlying127 rfl hi127) (by assumption) ?_
  clear hi127
  simp only [Act.put, List.setIfInBounds_toArray, List.set_cons_zero, List.set_cons_succ]
  refine wpAnyN_take (i := 9) (v := _) rfl (by kernel_rfl) (by kernel_rfl) (by kernel_rfl) (by kernel_rfl) (fun _ _ _ h => h) (yields_run rfl fun w _ => exec_build 129 #[(0, .tmp 23), (1, .tmp 26)] rfl #[(0, .int .i64 n), (1, .agg (bvs l).toArray)] rfl (hbd w n)) (by assumption) ?_
  simp only [Act.put, List.setIfInBounds_toArray, List.set_cons_zero, List.set_cons_succ]
  refine wpAnyN_one (i := 10) rfl (by kernel_rfl) ?_
  refine wpList_run rfl (exec_buildSlice 121 1 #[(0, .tmp 27)] rfl #[(0, .agg (Value.int .i64 n :: bvs l).toArray)] rfl (hbs2 _ n)) ?_
  refine wpList_nil ?_
  simp only [Act.put, List.setIfInBounds_toArray, List.set_cons_zero, List.set_cons_succ]
  refine ⟨fun _ => ⟨by rw [World.cell?_alloc_lt _ _ _ (by simpa using hd1.lt)]; exact c1, World.rangeAt_alloc hr1 _⟩, ?_⟩
  have hpl := hd1.lt
  have hW : Step (Only D) w o (w1.drew.alloc (.cells (Value.int .i64 (n : Int) :: bvs l).toArray 129)) o1 := (hs1.drew).alloc' _
  have hnb : (w1.drew.alloc (.cells (Value.int .i64 (n : Int) :: bvs l).toArray 129)).heap[w1.heap.size]? = some (.cells (Value.int .i64 (n : Int) :: bvs l).toArray 129 (0, 0)) := heap_alloc_new w1.drew _
  have hold : ∀ k, k < w1.heap.size → (w1.drew.alloc (.cells (Value.int .i64 (n : Int) :: bvs l).toArray 129)).heap[k]? = w1.heap[k]? := fun k hk => Below.heap_alloc w1.drew _ k hk
  have hownW := ownsRow_same hown (fun k hk => hold k (hown.lt k hk).2)
  generalize hWe : (w1.drew.alloc (.cells (Value.int .i64 (n : Int) :: bvs l).toArray 129)) = W at *
  have hWs : W.heap.size = w1.heap.size + 1 := by rw [← hWe]; simp
  obtain ⟨g, cap', w3, hrun, hown3, hgrow, hat, hlt⟩ := run_append_row (P := Try.prog) W 121 121 129 Try.underlying121 inf129 length_zero513 (by omega) (Nat.zero_le _) rv d1.row.length (rowCells d1.row) hownW w1.heap.size 0 1 1
    (Value.int .i64 (n : Int) :: bvs l) (by rw [List.length_cons, length_bvs, HL.out]) (range_whole hnb) (one_cons rfl (one_bvs l)) (by omega) (by omega) (by omega)
  have hbll := lt_of_block hbl
  have hp3 : w3.heap[p]? = w1.heap[p]? := by
    rw [hgrow.block p (by omega) (by intro hx; have := orr p hx.symm; rw [op] at this; simp at this), hold p hpl]
  have hbl3 : w3.heap[bl]? = some (.cells (bvs d1.pages.flatten).toArray 127 (0, 0)) := by
    rw [hgrow.block bl (by omega) (by intro hx; have := orr bl hx.symm; rw [ol] at this; simp at this), hold bl hbll]; exact hbl
  have hgt : o1 g = (D, 2) ∨ W.heap.size ≤ g := by
    rcases hat with hat | hat
    · exact .inl (orr g hat)
    · exact .inr (by omega)
  have hs3 : Step (Only D) w o w3 (tagAt o1 g (D, 2)) := hW.grown hgrow (fun k hk => .inl (by rw [orr k hk]; rfl)) g (D, 2) hgt
  have hgp : p ≠ g := by
    rintro rfl
    rcases hgt with h1 | h1
    · rw [op] at h1; simp at h1
    · omega
  have hgb : bl ≠ g := by
    rintro rfl
    rcases hgt with h1 | h1
    · rw [ol] at h1; simp at h1
    · omega
  have hc13 : w3.cell? ⟨p, 1, none⟩ = some rv := by rw [World.cell?_of_block (w := w1) (a := ⟨p, 1, none⟩) hp3]; exact c1
  have hf13 : w3.frozen? ⟨p, 1, none⟩ = false := by rw [World.frozen?_of_block (w := w1) (a := ⟨p, 1, none⟩) hp3]; exact f1
  have hr3 : w3.rangeAt b off (bvs l) := range_same hr (hs3.block b hbs (by rw [ho]; exact fun h => hD h.symm))
  refine wpAnyN_one (i := 11) rfl (by kernel_rfl) ?_
  refine wpList_run rfl (exec_append (.tmp 22) (.tmp 28) 121 121 rfl hrun) ?_
  refine wpList_nil ?_
  simp only [Act.put, List.setIfInBounds_toArray, List.set_cons_zero, List.set_cons_succ]
  refine ⟨fun _ => ⟨hc13, hr3⟩, ?_⟩
  clear hrun hWe hold hnb
  refine wpAnyN_one (i := 12) rfl (by kernel_rfl) ?_
  go_wp2_with fail
  refine ⟨fun h => by simp at h, ?_⟩
  refine wpAnyN_one (i := 13) rfl (by kernel_rfl) ?_
  go_wp2_with fail
  refine ⟨fun h => by simp at h, ?_⟩
  refine wpAnyN_one (i := 14) rfl (by kernel_rfl) ?_
  go_wp2_with fail
  refine ⟨fun h => by simp at h, ?_⟩
  refine wpAnyN_done (by kernel_rfl) ?_ _
  go_wp2
  go_ret
  refine ⟨_, tagAt o1 g (D, 2), rfl, hs3.setCell _ (.inl ?_), rfl, ?_⟩
  · show Only D (tagAt o1 g (D, 2) p).1
    rw [tagAt_other _ _ hgp, op]; rfl
  · rw [Int.toNat_natCast]
    obtain ⟨bl', rv', hp', hbl', -⟩ := hd1
    have hp4 : w1.heap[p]? = some (.cells #[.slice (some ⟨bl, 0, none⟩) d1.pages.length d1.pages.length, rv, .int .i64 d1.left, .bool d1.dead] 123 (0, 0)) := by
      have e0 := cell_of_block hp' 0
      have e1 := cell_of_block hp' 1
      rw [c0] at e0
      rw [c1] at e1
      simp only [List.getElem?_cons_zero, List.getElem?_cons_succ, Option.some.injEq] at e0 e1
      rw [hp', ← e0, ← e1]
    exact DiskAt.pushed hwf1 ha1 HL.out (hp3.trans hp4) hbl3 hown3 (by rw [tagAt_other _ _ hgp]; exact op) (by rw [tagAt_other _ _ hgb]; exact ol) (tagAt_same _ _ _)
theorem write_any {w : World} {o : Own} {D p : Nat} {d : DiskM} (h : DiskAt w o D p d) (hD : D ≠ 0) (at' : Int) (v : Value) (l : List UInt8) (hb : Bytes w o v l) (hrow : d.row.length ≤ 1000000) :
    Calls Try.prog 22 #[.pointer (some ⟨p, 0, none⟩), .int .i64 at', v] w (Ret (Only D) w o fun v w' o' => v = .int .i64 (d.write at' l).2 ∧ DiskAt w' o' D p (d.write at' l).1) := by
  by_cases hc : (d.counted (d.asked at' l.length)).2 = 0
  · exact write_yes h hD at' v l hb hrow hc
  · exact write_no h at' v l hb hc
theorem write_nil (w : World) (o : Own) (at' : Int) (v : Value) (l : List UInt8) (hb : Bytes w o v l) :
    Calls Try.prog 22 #[.pointer none, .int .i64 at', v] w fun e w' => e = .returned (.int .i64 8) ∧ w = w' := by
  rcases hb.cases with ⟨⟨sa, sc, rfl⟩, rfl⟩ | ⟨b, off, cap, rfl, hl, hm, ho, hbs, hr⟩
  all_goals clear hb
  all_goals
    go_enter Try.func22, Try.ntmps22
    go_wp2_with (first | (go_at_call 68; refine (asked_nil _ _ _).mono ?_; rintro e w' ⟨rfl, rfl⟩) | (go_at_call 67; refine (counted_pass _ _ _ ?_).mono ?_; (simp); rintro e w' ⟨rfl, rfl⟩))
    go_ret
    exact ⟨rfl, rfl⟩
end Go.Proofs.YtfgggkheadfiaaaR
