/- Contracts of the disk's small functions: asked, counted, Dead, Kill, Fuse, Size, Waiting. -/
import Derived.Test.YtfgggkheadfiaaaRProg
import Derived.Test.YtfgggkheadfiaaaRDiskM
import Derived.Deep.QuietTactic
import Derived.BigQuiet
import Derived.StillTailTactics
namespace Go.Proofs.YtfgggkheadfiaaaR
open Go Go.RowKit

/-- A store into the disk's own struct. -/
theorem DiskAt.open {w : World} {o : Own} {D p : Nat} {d : DiskM} (h : DiskAt w o D p d) : ∃ bl rv,
    (w.cell? ⟨p, 0, none⟩ = some (.slice (some ⟨bl, 0, none⟩) d.pages.length d.pages.length) ∧ w.cell? ⟨p, 1, none⟩ = some rv ∧ w.cell? ⟨p, 2, none⟩ = some (.int .i64 d.left) ∧ w.cell? ⟨p, 3, none⟩ = some (.bool d.dead)) ∧
    (w.frozen? ⟨p, 1, none⟩ = false ∧ w.frozen? ⟨p, 2, none⟩ = false ∧ w.frozen? ⟨p, 3, none⟩ = false) ∧
    w.heap[bl]? = some (.cells (bvs d.pages.flatten).toArray 127 (0, 0)) ∧ w.ownsRow 0 129 513 rv d.row.length (rowCells d.row) ∧
    o p = (D, 0) ∧ o bl = (D, 1) ∧ (∀ k, rv.ownBlock = some k → o k = (D, 2)) := by
  obtain ⟨bl, rv, hp, hl, hr, op, ol, orr, hwf⟩ := h
  exact ⟨bl, rv, ⟨cell_of_block hp 0, cell_of_block hp 1, cell_of_block hp 2, cell_of_block hp 3⟩, ⟨free_of_block hp 1, free_of_block hp 2, free_of_block hp 3⟩, hl, hr, op, ol, orr⟩

/-- What becomes of the disk where its countdown or its power is written. -/
theorem DiskAt.setLeft {w : World} {o : Own} {D p : Nat} {d : DiskM} (h : DiskAt w o D p d) (n : Int) (hn : -1 ≤ n ∧ n ≤ 9223372036854775807) : DiskAt (w.setCell ⟨p, 2, none⟩ (.int .i64 n)) o D p { d with left := n } := by
  obtain ⟨bl, rv, hp, hl, hr, op, ol, orr, hwf⟩ := h
  refine ⟨bl, rv, heap_setCell_at _ hp, ?_, ?_, op, ol, orr, ?_⟩
  · rw [Below.heap_setCell _ _ _ _ (by rintro rfl; rw [op] at ol; simp at ol)]; exact hl
  · refine ownsRow_same hr fun k hk => Below.heap_setCell _ _ _ _ ?_
    rintro rfl; have := orr _ hk; rw [op] at this; simp at this
  · obtain ⟨h1, h2, h3, h4, h5, h6⟩ := hwf; exact ⟨h1, h2, h3, h4, hn.1, hn.2⟩
theorem DiskAt.setDead {w : World} {o : Own} {D p : Nat} {d : DiskM} (h : DiskAt w o D p d) (b : Bool) : DiskAt (w.setCell ⟨p, 3, none⟩ (.bool b)) o D p { d with dead := b } := by
  obtain ⟨bl, rv, hp, hl, hr, op, ol, orr, hwf⟩ := h
  refine ⟨bl, rv, heap_setCell_at _ hp, ?_, ?_, op, ol, orr, hwf⟩
  · rw [Below.heap_setCell _ _ _ _ (by rintro rfl; rw [op] at ol; simp at ol)]; exact hl
  · refine ownsRow_same hr fun k hk => Below.heap_setCell _ _ _ _ ?_
    rintro rfl; have := orr _ hk; rw [op] at this; simp at this
theorem DiskAt.ofD {w : World} {o : Own} {D p : Nat} {d : DiskM} (h : DiskAt w o D p d) : (o p).1 = D := by
  obtain ⟨bl, rv, hp, hl, hr, op, ol, orr, hwf⟩ := h; rw [op]
theorem DiskAt.setStep {w : World} {o : Own} {D p : Nat} {d : DiskM} (h : DiskAt w o D p d) (i : Nat) (v : Value) : Step (Only D) w o (w.setCell ⟨p, i, none⟩ v) o :=
  (Step.refl _ w o).setCell v (.inl h.ofD)

set_option maxHeartbeats 400000 in
theorem dead_any {w : World} {o : Own} {D p : Nat} {d : DiskM} (h : DiskAt w o D p d) :
    Calls Try.prog 28 #[.pointer (some ⟨p, 0, none⟩)] w fun e w' => e = .returned (.bool d.dead) ∧ w = w' := by
  obtain ⟨bl, rv, ⟨c0, c1, c2, c3⟩, ⟨f1, f2, f3⟩, hl, hr, op, ol, orr⟩ := h.open
  clear op ol orr hr hl
  go_enter Try.func28, Try.ntmps28
  go_wp2
  go_ret
  exact ⟨rfl, rfl⟩
theorem dead_nil (w : World) : Calls Try.prog 28 #[.pointer none] w fun e w' => e = .returned (.bool false) ∧ w = w' := by
  go_enter Try.func28, Try.ntmps28
  go_wp2
  go_ret
  exact ⟨rfl, rfl⟩
set_option maxHeartbeats 400000 in
theorem kill_any {w : World} {o : Own} {D p : Nat} {d : DiskM} (h : DiskAt w o D p d) :
    Calls Try.prog 32 #[.pointer (some ⟨p, 0, none⟩)] w (Ret (Only D) w o fun v w' o' => v = .tuple #[] ∧ DiskAt w' o' D p d.kill) := by
  have hs := h.setStep 3 (.bool true)
  have hd := h.setDead true
  obtain ⟨bl, rv, ⟨c0, c1, c2, c3⟩, ⟨f1, f2, f3⟩, hl, hr, op, ol, orr⟩ := h.open
  clear op ol orr hr hl
  go_enter Try.func32, Try.ntmps32
  go_wp2
  go_end0
  exact ⟨_, o, rfl, hs, rfl, hd⟩
theorem kill_nil (w : World) : Calls Try.prog 32 #[.pointer none] w fun e w' => e = .returned (.tuple #[]) ∧ w = w' := by
  go_enter Try.func32, Try.ntmps32
  go_wp2
  go_end0
  exact ⟨rfl, rfl⟩
set_option maxHeartbeats 400000 in
theorem asked_any {w : World} {o : Own} {D p : Nat} {d : DiskM} (h : DiskAt w o D p d) (at' n : Int) :
    Calls Try.prog 68 #[.pointer (some ⟨p, 0, none⟩), .int .i64 at', .int .i64 n] w fun e w' => e = .returned (.int .i64 (d.asked at' n)) ∧ w = w' := by
  obtain ⟨bl, rv, ⟨c0, c1, c2, c3⟩, ⟨f1, f2, f3⟩, hl, hr, op, ol, orr⟩ := h.open
  clear op ol orr hr hl
  by_cases hd : d.dead = true
  · rw [hd] at c3
    have hE : d.asked at' n = 9 := by simp [DiskM.asked, hd]
    rw [hE]
    go_enter Try.func68, Try.ntmps68
    go_wp2
    go_ret
    exact ⟨rfl, rfl⟩
  · have hd' : d.dead = false := by simpa using hd
    rw [hd'] at c3
    by_cases h1 : at' < 0
    · have hE : d.asked at' n = 1 := by simp [DiskM.asked, hd', h1]
      rw [hE]
      go_enter Try.func68, Try.ntmps68
      go_wp2
      go_ret
      exact ⟨rfl, rfl⟩
    · by_cases h2 : (d.pages.length : Int) ≤ at'
      · have hE : d.asked at' n = 1 := by simp [DiskM.asked, hd', h2]
        rw [hE]
        go_enter Try.func68, Try.ntmps68
        go_wp2
        go_ret
        exact ⟨rfl, rfl⟩
      · by_cases h3 : n = 512
        · have hE : d.asked at' n = 0 := by simp [DiskM.asked, hd', h1, h2, h3]
          rw [hE]
          subst h3
          go_enter Try.func68, Try.ntmps68
          go_wp2
          go_ret
          exact ⟨rfl, rfl⟩
        · have hE : d.asked at' n = 1 := by simp [DiskM.asked, hd', h3]
          rw [hE]
          have h3' : (n != 512) = true := by simpa using h3
          clear h3
          go_enter Try.func68, Try.ntmps68
          go_wp2
          go_ret
          exact ⟨rfl, rfl⟩
theorem asked_nil (w : World) (at' n : Int) : Calls Try.prog 68 #[.pointer none, .int .i64 at', .int .i64 n] w fun e w' => e = .returned (.int .i64 8) ∧ w = w' := by
  go_enter Try.func68, Try.ntmps68
  go_wp2
  go_ret
  exact ⟨rfl, rfl⟩
set_option maxHeartbeats 400000 in
theorem counted_any {w : World} {o : Own} {D p : Nat} {d : DiskM} (h : DiskAt w o D p d) (n : Int) :
    Calls Try.prog 67 #[.pointer (some ⟨p, 0, none⟩), .int .i64 n] w (Ret (Only D) w o fun v w' o' => v = .int .i64 (d.counted n).2 ∧ DiskAt w' o' D p (d.counted n).1) := by
  have hwf := h.wf
  obtain ⟨-, -, -, -, b1, b2⟩ := hwf
  obtain ⟨bl, rv, ⟨c0, c1, c2, c3⟩, ⟨f1, f2, f3⟩, hl, hr, op, ol, orr⟩ := h.open
  clear op ol orr hr hl
  by_cases h1 : n = 0
  · subst h1
    by_cases h2 : d.left < 0
    · have hE : d.counted 0 = (d, 0) := by simp [DiskM.counted, h2]
      rw [hE]
      go_enter Try.func67, Try.ntmps67
      go_wp2
      go_ret
      exact ⟨_, o, rfl, Step.refl _ _ _, rfl, h⟩
    · by_cases h3 : d.left = 0
      · have hE : d.counted 0 = ({ d with dead := true }, 9) := by simp [DiskM.counted, h3]
        rw [hE]
        rw [h3] at c2
        have hs := h.setStep 3 (.bool true)
        have hd := h.setDead true
        clear h3 h2 b1 b2
        go_enter Try.func67, Try.ntmps67
        go_wp2
        go_ret
        exact ⟨_, o, rfl, hs, rfl, hd⟩
      · have hE : d.counted 0 = ({ d with left := d.left - 1 }, 0) := by simp [DiskM.counted, h2, h3]
        rw [hE]
        have hs := h.setStep 2 (.int .i64 (d.left - 1))
        have hd := h.setLeft (d.left - 1) (by omega)
        have h3' : (d.left == 0) = false := by simpa using h3
        clear h3
        go_enter Try.func67, Try.ntmps67
        go_wp2
        go_ret
        exact ⟨_, o, rfl, hs, rfl, hd⟩
  · have hE : d.counted n = (d, n) := by simp [DiskM.counted, h1]
    rw [hE]
    have h1' : (n != 0) = true := by simpa using h1
    clear h1
    go_enter Try.func67, Try.ntmps67
    go_wp2
    go_ret
    exact ⟨_, o, rfl, Step.refl _ _ _, rfl, h⟩
set_option maxHeartbeats 400000 in
theorem fuse_any {w : World} {o : Own} {D p : Nat} {d : DiskM} (h : DiskAt w o D p d) (n : Int) (hn : n ≤ 9223372036854775807) :
    Calls Try.prog 21 #[.pointer (some ⟨p, 0, none⟩), .int .i64 n] w (Ret (Only D) w o fun v w' o' => v = .tuple #[] ∧ DiskAt w' o' D p (d.fuse n)) := by
  obtain ⟨bl, rv, ⟨c0, c1, c2, c3⟩, ⟨f1, f2, f3⟩, hl, hr, op, ol, orr⟩ := h.open
  clear op ol orr hr hl
  by_cases hd : d.dead = true
  · rw [hd] at c3
    have hE : d.fuse n = d := by simp [DiskM.fuse, hd]
    rw [hE]
    go_enter Try.func21, Try.ntmps21
    go_wp2
    go_end0
    exact ⟨_, o, rfl, Step.refl _ _ _, rfl, h⟩
  · have hd' : d.dead = false := by simpa using hd
    rw [hd'] at c3
    have hE : d.fuse n = { d with left := max (-1) n } := by simp [DiskM.fuse, hd']
    rw [hE]
    clear hE hd' hd
    by_cases hn1 : n ≤ -1
    · rw [show max (-1) n = -1 from by omega]
      have hs := h.setStep 2 (.int .i64 (-1))
      have hd := h.setLeft (-1) (by omega)
      go_enter Try.func21, Try.ntmps21
      go_wp2
      go_end0
      exact ⟨_, o, rfl, hs, rfl, hd⟩
    · rw [show max (-1) n = n from by omega]
      have hs := h.setStep 2 (.int .i64 n)
      have hd := h.setLeft n (by omega)
      go_enter Try.func21, Try.ntmps21
      go_wp2
      go_end0
      exact ⟨_, o, rfl, hs, rfl, hd⟩
theorem fuse_nil (w : World) (n : Int) : Calls Try.prog 21 #[.pointer none, .int .i64 n] w fun e w' => e = .returned (.tuple #[]) ∧ w = w' := by
  go_enter Try.func21, Try.ntmps21
  go_wp2
  go_end0
  exact ⟨rfl, rfl⟩
set_option maxHeartbeats 400000 in
theorem size_any {w : World} {o : Own} {D p : Nat} {d : DiskM} (h : DiskAt w o D p d) :
    Calls Try.prog 34 #[.pointer (some ⟨p, 0, none⟩)] w fun e w' => e = .returned (.int .i64 d.pages.length) ∧ w = w' := by
  obtain ⟨bl, rv, ⟨c0, c1, c2, c3⟩, ⟨f1, f2, f3⟩, hl, hr, op, ol, orr⟩ := h.open
  clear op ol orr hr hl
  go_enter Try.func34, Try.ntmps34
  go_wp2
  go_ret
  exact ⟨rfl, rfl⟩
theorem size_nil (w : World) : Calls Try.prog 34 #[.pointer none] w fun e w' => e = .returned (.int .i64 0) ∧ w = w' := by
  go_enter Try.func34, Try.ntmps34
  go_wp2
  go_ret
  exact ⟨rfl, rfl⟩
theorem row_form {w : World} {rv : Value} {n : Nat} {xs : List Value} (h : w.ownsRow 0 129 513 rv n xs) : ∃ a cap, rv = .slice a n cap := by
  rcases h.2 with ⟨rfl, rfl⟩ | ⟨g, cap, cur, rfl, _⟩
  · exact ⟨_, _, rfl⟩
  · exact ⟨_, _, rfl⟩
set_option maxHeartbeats 400000 in
theorem waiting_any {w : World} {o : Own} {D p : Nat} {d : DiskM} (h : DiskAt w o D p d) :
    Calls Try.prog 29 #[.pointer (some ⟨p, 0, none⟩)] w fun e w' => e = .returned (.int .i64 d.row.length) ∧ w = w' := by
  obtain ⟨bl, rv, ⟨c0, c1, c2, c3⟩, ⟨f1, f2, f3⟩, hl, hr, op, ol, orr⟩ := h.open
  obtain ⟨a, cap, rfl⟩ := row_form hr
  clear op ol orr hr hl
  go_enter Try.func29, Try.ntmps29
  go_wp2
  go_ret
  exact ⟨rfl, rfl⟩
theorem waiting_nil (w : World) : Calls Try.prog 29 #[.pointer none] w fun e w' => e = .returned (.int .i64 0) ∧ w = w' := by
  go_enter Try.func29, Try.ntmps29
  go_wp2
  go_ret
  exact ⟨rfl, rfl⟩
end Go.Proofs.YtfgggkheadfiaaaR
