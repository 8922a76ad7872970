/- The document's own disk (strings for pages) as it lies in memory, and contracts of its small functions: counts, Fuse, Seen, Read. It computes the same plain functions as the disk. -/
import Derived.Test.YtfgggkheadfiaaaRLaw07f
namespace Go.Proofs.YtfgggkheadfiaaaR
open Go Go.RowKit
attribute [local go_sem ↓] Go.wp_at_zero Go.wp_at_succ

def str (l : List UInt8) : Value := .string ⟨l.toArray⟩
def strs (ps : List (List UInt8)) : List Value := ps.map str
def refCells (row : List (Nat × List UInt8)) : List Value := row.flatMap fun x => [Value.int .i64 (x.1 : Int), str x.2]
theorem refCells_snoc (row : List (Nat × List UInt8)) (x : Nat × List UInt8) : refCells (row ++ [x]) = refCells row ++ [Value.int .i64 (x.1 : Int), str x.2] := by simp [refCells]
theorem get_refCells : ∀ (row : List (Nat × List UInt8)) (i : Nat) (hi : i < row.length), (refCells row)[2 * i]? = some (.int .i64 (row[i].1 : Int)) ∧ (refCells row)[2 * i + 1]? = some (str row[i].2)
  | x :: r, 0, _ => ⟨rfl, rfl⟩
  | x :: r, i + 1, hi => by
    have ih := get_refCells r i (by simpa using hi)
    have e : refCells (x :: r) = Value.int .i64 (x.1 : Int) :: str x.2 :: refCells r := rfl
    rw [e, show 2 * (i + 1) = 2 * i + 2 from by omega, show 2 * i + 2 + 1 = (2 * i + 1) + 2 from by omega]
    simpa using ih
theorem get_strs (ps : List (List UInt8)) (i : Nat) (hi : i < ps.length) : (strs ps)[i]? = some (str (ps.getD i [])) := by
  simp [strs, hi]
theorem strs_set (ps : List (List UInt8)) (i : Nat) (l : List UInt8) : (strs ps).set i (str l) = strs (ps.set i l) := by simp [strs, List.map_set]

/-- The document's disk d lies at block p; its blocks are the object E's. -/
def RefAt (w : World) (o : Own) (E p : Nat) (d : DiskM) : Prop :=
  ∃ pv rv,
    w.heap[p]? = some (.cells #[pv, rv, .int .i64 d.left, .bool d.dead] 51 (0, 0)) ∧
    w.ownsRow 0 9 1 pv d.pages.length (strs d.pages) ∧ w.ownsRow 0 174 2 rv d.row.length (refCells d.row) ∧
    o p = (E, 0) ∧ (∀ k, pv.ownBlock = some k → o k = (E, 1)) ∧ (∀ k, rv.ownBlock = some k → o k = (E, 2)) ∧ d.wf

theorem RefAt.step {T : Nat → Prop} {w w' : World} {o o' : Own} {E p : Nat} {d : DiskM} (h : RefAt w o E p d) (s : Step T w o w' o') (hT : ¬ T E) : RefAt w' o' E p d := by
  obtain ⟨pv, rv, hp, hl, hr, op, ol, orr, hwf⟩ := h
  have hpl := lt_of_block hp
  refine ⟨pv, rv, ?_, ?_, ?_, ?_, ?_, ?_, hwf⟩
  · rw [s.block p hpl (by rw [op]; exact hT)]; exact hp
  · exact ownsRow_same hl fun k hk => s.block k (hl.lt k hk).2 (by rw [ol k hk]; exact hT)
  · exact ownsRow_same hr fun k hk => s.block k (hr.lt k hk).2 (by rw [orr k hk]; exact hT)
  · rw [s.own p hpl]; exact op
  · intro k hk; rw [s.own k (hl.lt k hk).2]; exact ol k hk
  · intro k hk; rw [s.own k (hr.lt k hk).2]; exact orr k hk
theorem RefAt.wf {w : World} {o : Own} {E p : Nat} {d : DiskM} (h : RefAt w o E p d) : d.wf := by
  obtain ⟨pv, rv, hp, hl, hr, op, ol, orr, hwf⟩ := h; exact hwf
theorem RefAt.lt {w : World} {o : Own} {E p : Nat} {d : DiskM} (h : RefAt w o E p d) : p < w.heap.size := by
  obtain ⟨pv, rv, hp, hl, hr, op, ol, orr, hwf⟩ := h; exact lt_of_block hp
theorem RefAt.ofE {w : World} {o : Own} {E p : Nat} {d : DiskM} (h : RefAt w o E p d) : (o p).1 = E := by
  obtain ⟨pv, rv, hp, hl, hr, op, ol, orr, hwf⟩ := h; rw [op]
theorem RefAt.setStep {w : World} {o : Own} {E p : Nat} {d : DiskM} (h : RefAt w o E p d) (i : Nat) (v : Value) : Step (Only E) w o (w.setCell ⟨p, i, none⟩ v) o :=
  (Step.refl _ w o).setCell v (.inl h.ofE)
theorem RefAt.open {w : World} {o : Own} {E p : Nat} {d : DiskM} (h : RefAt w o E p d) : ∃ pv rv,
    (w.cell? ⟨p, 0, none⟩ = some pv ∧ w.cell? ⟨p, 1, none⟩ = some rv ∧ w.cell? ⟨p, 2, none⟩ = some (.int .i64 d.left) ∧ w.cell? ⟨p, 3, none⟩ = some (.bool d.dead)) ∧
    (w.frozen? ⟨p, 1, none⟩ = false ∧ w.frozen? ⟨p, 2, none⟩ = false ∧ w.frozen? ⟨p, 3, none⟩ = false) ∧
    w.ownsRow 0 9 1 pv d.pages.length (strs d.pages) ∧ w.ownsRow 0 174 2 rv d.row.length (refCells d.row) ∧
    o p = (E, 0) ∧ (∀ k, pv.ownBlock = some k → o k = (E, 1)) ∧ (∀ k, rv.ownBlock = some k → o k = (E, 2)) := by
  obtain ⟨pv, rv, hp, hl, hr, op, ol, orr, hwf⟩ := h
  exact ⟨pv, rv, ⟨cell_of_block hp 0, cell_of_block hp 1, cell_of_block hp 2, cell_of_block hp 3⟩, ⟨free_of_block hp 1, free_of_block hp 2, free_of_block hp 3⟩, hl, hr, op, ol, orr⟩
theorem RefAt.setAny {w : World} {o : Own} {E p : Nat} {d d' : DiskM} (h : RefAt w o E p d) (i : Nat) (v : Value) (hc : ∀ pv rv, ([pv, rv, .int .i64 d.left, .bool d.dead] : List Value).set i v = [pv, rv, .int .i64 d'.left, .bool d'.dead])
    (hpg : d'.pages = d.pages) (hrw : d'.row = d.row) (hwf' : d'.wf) : RefAt (w.setCell ⟨p, i, none⟩ v) o E p d' := by
  obtain ⟨pv, rv, hp, hl, hr, op, ol, orr, hwf⟩ := h
  refine ⟨pv, rv, ?_, ?_, ?_, op, ol, orr, hwf'⟩
  · rw [heap_setCell_at _ hp, hc]
  · rw [hpg]
    refine ownsRow_same hl fun k hk => Below.heap_setCell _ _ _ _ ?_
    rintro rfl; have := ol _ hk; rw [op] at this; simp at this
  · rw [hrw]
    refine ownsRow_same hr fun k hk => Below.heap_setCell _ _ _ _ ?_
    rintro rfl; have := orr _ hk; rw [op] at this; simp at this
theorem RefAt.setLeft {w : World} {o : Own} {E p : Nat} {d : DiskM} (h : RefAt w o E p d) (n : Int) (hn : -1 ≤ n ∧ n ≤ 9223372036854775807) : RefAt (w.setCell ⟨p, 2, none⟩ (.int .i64 n)) o E p { d with left := n } :=
  h.setAny 2 _ (fun _ _ => rfl) rfl rfl (by obtain ⟨h1, h2, h3, h4, h5, h6⟩ := h.wf; exact ⟨h1, h2, h3, h4, hn.1, hn.2⟩)
theorem RefAt.setDead {w : World} {o : Own} {E p : Nat} {d : DiskM} (h : RefAt w o E p d) (b : Bool) : RefAt (w.setCell ⟨p, 3, none⟩ (.bool b)) o E p { d with dead := b } :=
  h.setAny 3 _ (fun _ _ => rfl) rfl rfl h.wf
theorem RefAt.setRowNil {w : World} {o : Own} {E p : Nat} {d : DiskM} (h : RefAt w o E p d) : RefAt (w.setCell ⟨p, 1, none⟩ (.slice none 0 0)) o E p { d with row := [] } := by
  obtain ⟨pv, rv, hp, hl, hr, op, ol, orr, hwf⟩ := h
  refine ⟨pv, .slice none 0 0, heap_setCell_at _ hp, ?_, World.ownsRow_nil _ _ _ _, op, ol, ?_, ?_⟩
  · refine ownsRow_same hl fun k hk => Below.heap_setCell _ _ _ _ ?_
    rintro rfl; have := ol _ hk; rw [op] at this; simp at this
  · intro k hk; simp [Value.ownBlock] at hk
  · obtain ⟨h1, h2, h3, h4, h5, h6⟩ := hwf; exact ⟨h1, h2, h3, by simp, h5, h6⟩

set_option maxHeartbeats 400000 in
theorem counts_any {w : World} {o : Own} {E p : Nat} {d : DiskM} (h : RefAt w o E p d) :
    Calls Try.prog 113 #[.pointer (some ⟨p, 0, none⟩)] w (Ret (Only E) w o fun v w' o' => v = .bool (decide ((d.counted 0).2 = 0)) ∧ RefAt w' o' E p (d.counted 0).1) := by
  obtain ⟨-, -, -, -, b1, b2⟩ := h.wf
  obtain ⟨pv, rv, ⟨c0, c1, c2, c3⟩, ⟨f1, f2, f3⟩, hl, hr, op, ol, orr⟩ := h.open
  clear op ol orr hr hl
  by_cases h2 : d.left < 0
  · have hE : d.counted 0 = (d, 0) := by simp [DiskM.counted, h2]
    rw [hE]
    have h3 : (d.left == 0) = false := by simp; omega
    have h4 : ¬ 0 < d.left := by omega
    go_enter Try.func113, Try.ntmps113
    go_wp2
    go_ret
    exact ⟨_, o, rfl, Step.refl _ _ _, rfl, h⟩
  · by_cases h3 : d.left = 0
    · have hE : d.counted 0 = ({ d with dead := true }, 9) := by simp [DiskM.counted, h3]
      rw [hE]
      rw [h3] at c2
      have hs := h.setStep 3 (.bool true)
      have hd := h.setDead true
      clear h3 h2 b1 b2
      go_enter Try.func113, Try.ntmps113
      go_wp2
      go_ret
      exact ⟨_, o, rfl, hs, rfl, hd⟩
    · have hE : d.counted 0 = ({ d with left := d.left - 1 }, 0) := by simp [DiskM.counted, h2, h3]
      rw [hE]
      have hs := h.setStep 2 (.int .i64 (d.left - 1))
      have hd := h.setLeft (d.left - 1) (by omega)
      have h3' : (d.left == 0) = false := by simpa using h3
      have h4 : 0 < d.left := by omega
      clear h3 h2
      go_enter Try.func113, Try.ntmps113
      go_wp2
      go_ret
      exact ⟨_, o, rfl, hs, rfl, hd⟩

set_option maxHeartbeats 400000 in
theorem rfuse_any {w : World} {o : Own} {E p : Nat} {d : DiskM} (h : RefAt w o E p d) (n : Int) (hn : n ≤ 9223372036854775807) :
    Calls Try.prog 74 #[.pointer (some ⟨p, 0, none⟩), .int .i64 n] w (Ret (Only E) w o fun v w' o' => v = .tuple #[] ∧ RefAt w' o' E p (d.fuse n)) := by
  obtain ⟨pv, rv, ⟨c0, c1, c2, c3⟩, ⟨f1, f2, f3⟩, hl, hr, op, ol, orr⟩ := h.open
  clear op ol orr hr hl
  by_cases hd : d.dead = true
  · rw [hd] at c3
    have hE : d.fuse n = d := by simp [DiskM.fuse, hd]
    rw [hE]
    go_enter Try.func74, Try.ntmps74
    go_wp2
    go_end0
    exact ⟨_, o, rfl, Step.refl _ _ _, rfl, h⟩
  · have hd' : d.dead = false := by simpa using hd
    rw [hd'] at c3
    have hE : d.fuse n = { d with left := max (-1) n } := by simp [DiskM.fuse, hd']
    rw [hE]
    clear hE hd' hd
    by_cases hn1 : ¬ -1 ≤ n
    · rw [show max (-1) n = -1 from by omega]
      have hs := h.setStep 2 (.int .i64 (-1))
      have hd := h.setLeft (-1) (by omega)
      go_enter Try.func74, Try.ntmps74
      go_wp2
      go_end0
      exact ⟨_, o, rfl, hs, rfl, hd⟩
    · have hn1 : -1 ≤ n := by omega
      rw [show max (-1) n = n from by omega]
      have hs := h.setStep 2 (.int .i64 n)
      have hd := h.setLeft n (by omega)
      go_enter Try.func74, Try.ntmps74
      go_wp2
      go_end0
      exact ⟨_, o, rfl, hs, rfl, hd⟩

theorem rrow_form {w : World} {e size n : Nat} {rv : Value} {xs : List Value} (h : w.ownsRow 0 e size rv n xs) : ∃ a cap, rv = .slice a n cap := by
  rcases h.2 with ⟨rfl, rfl⟩ | ⟨g, cap, cur, rfl, _⟩
  · exact ⟨_, _, rfl⟩
  · exact ⟨_, _, rfl⟩
theorem row_at {w : World} {e size n : Nat} {v : Value} {xs : List Value} (h : w.ownsRow 0 e size v n xs) (hn : 0 < n) : ∃ g cap, v = .slice (some ⟨g, 0, none⟩) n cap := by
  rcases h.2 with ⟨rfl, rfl⟩ | ⟨g, cap, cur, rfl, _⟩
  · omega
  · exact ⟨_, _, rfl⟩

set_option maxRecDepth 100000 in
set_option maxHeartbeats 1600000 in
theorem rseen_any {w : World} {o : Own} {E p : Nat} {d : DiskM} (h : RefAt w o E p d) (n : Nat) (hn : n < d.pages.length) (hrow : d.row.length ≤ 1000000) :
    Calls Try.prog 76 #[.pointer (some ⟨p, 0, none⟩), .int .i64 (n : Int)] w fun e w' => e = .returned (str (d.seen n)) ∧ w = w' := by
  obtain ⟨hw1, hw2, hw3, hw4, -, -⟩ := h.wf
  obtain ⟨pv, rv, ⟨c0, c1, c2, c3⟩, ⟨f1, f2, f3⟩, hl, hr, op, ol, orr⟩ := h.open
  obtain ⟨pg, pc, rfl⟩ := row_at hl (by omega)
  obtain ⟨ra, rc, rfl⟩ := rrow_form hr
  have hpc : w.cell? ⟨pg, n, none⟩ = some (str (d.pages.getD n [])) := by rw [hl.cellAt n (by omega)]; exact get_strs _ _ hn
  clear op ol orr hl c2 c3 f1 f2 f3
  unfold DiskM.seen
  unfold str at hpc
  generalize d.pages.getD n [] = page at *
  go_enter Try.func76, Try.ntmps76
  go_wp2_with fail
  go_loop [5, 6] (fun s i => ∃ k : Nat, k ≤ d.row.length ∧ i = .int .i64 k ∧ s = str (DiskM.seenIn n page (d.row.take k))) (fun _ i => d.row.length - (intOf i).toNat)
  case atStart => exact ⟨0, by omega, rfl, rfl⟩
  case round =>
    obtain ⟨k, hk, rfl, rfl⟩ := hrel
    by_cases hlt : k < d.row.length
    · obtain ⟨g, cap, hv⟩ := row_at hr (by omega)
      simp only [Value.slice.injEq, true_and] at hv
      obtain ⟨rfl, rfl⟩ := hv
      have e1 : w.cell? ⟨g, k * 2, none⟩ = some (.int .i64 (d.row[k].1 : Int)) := by rw [hr.cellAt _ (by omega), Nat.mul_comm]; exact (get_refCells _ _ hlt).1
      have e2 : w.cell? ⟨g, k * 2 + 1, none⟩ = some (str d.row[k].2) := by rw [hr.cellAt _ (by omega), Nat.mul_comm]; exact (get_refCells _ _ hlt).2
      have hseen : DiskM.seenIn n page (d.row.take (k + 1)) = if d.row[k].1 = n then d.row[k].2 else DiskM.seenIn n page (d.row.take k) := by
        rw [List.take_succ_eq_append_getElem hlt, DiskM.seenIn, List.foldl_append]
        rfl
      have hseenH := hidden hseen
      clear hseen hr hw4 hw3
      generalize d.row[k] = x at *
      obtain ⟨xa, xl⟩ := x
      unfold str at e2
      simp only at e1 e2 hseenH
      by_cases heq : xa = n
      · have heqb : ((xa : Int) == (n : Int)) = true := by rw [heq]; simp
        go_wp2
        go_round
        case rel => exact ⟨k + 1, by omega, by go_num, by rw [hseenH.out, if_pos heq]; rfl⟩
        case measure => simp [intOf]; omega
      · have heqb : ((xa : Int) == (n : Int)) = false := by simp; omega
        go_wp2
        go_round
        case rel => exact ⟨k + 1, by omega, by go_num, by rw [hseenH.out, if_neg heq]⟩
        case measure => simp [intOf]; omega
    · have hk' : k = d.row.length := by omega
      subst hk'
      rw [List.take_length]
      go_wp2
      go_ret
      exact ⟨rfl, rfl⟩

set_option maxRecDepth 100000 in
set_option maxHeartbeats 800000 in
theorem rread_any {w : World} {o : Own} {E p : Nat} {d : DiskM} (h : RefAt w o E p d) (at' : Int) (hrow : d.row.length ≤ 1000000) :
    Calls Try.prog 36 #[.pointer (some ⟨p, 0, none⟩), .int .i64 at'] w fun e w' => e = .returned (.tuple #[str (d.read at').1, .int .i64 (d.read at').2]) ∧ w = w' := by
  obtain ⟨hw1, hw2, -, -, -, -⟩ := h.wf
  obtain ⟨pv, rv, ⟨c0, c1, c2, c3⟩, ⟨f1, f2, f3⟩, hl, hr, op, ol, orr⟩ := h.open
  obtain ⟨pg, pc, rfl⟩ := row_at hl (by omega)
  clear op ol orr hl hr c1 c2 f1 f2 f3
  by_cases hd : d.dead = true
  · rw [hd] at c3
    have hE : d.read at' = ([], 9) := by simp [DiskM.read, DiskM.asked, hd]
    rw [hE]
    go_enter Try.func36, Try.ntmps36
    go_wp2
    go_ret2
    exact ⟨rfl, rfl⟩
  · have hd' : d.dead = false := by simpa using hd
    rw [hd'] at c3
    by_cases h1 : at' < 0
    · have hE : d.read at' = ([], 1) := by simp [DiskM.read, DiskM.asked, hd', h1]
      rw [hE]
      go_enter Try.func36, Try.ntmps36
      go_wp2
      go_ret2
      exact ⟨rfl, rfl⟩
    · by_cases h2 : (d.pages.length : Int) ≤ at'
      · have hE : d.read at' = ([], 1) := by simp [DiskM.read, DiskM.asked, hd', h2]
        rw [hE]
        go_enter Try.func36, Try.ntmps36
        go_wp2
        go_ret2
        exact ⟨rfl, rfl⟩
      · have hE : d.read at' = (d.seen at'.toNat, 0) := by simp [DiskM.read, DiskM.asked, hd', h1, h2]
        rw [hE]
        obtain ⟨n, rfl⟩ := Int.eq_ofNat_of_zero_le (show 0 ≤ at' by omega)
        rw [Int.toNat_natCast]
        go_enter Try.func36, Try.ntmps36
        go_wp2_with ((with_reducible refine (rseen_any h n (by omega) hrow).mono ?_); rintro e w' ⟨rfl, rfl⟩)
        go_ret2
        exact ⟨rfl, rfl⟩
end Go.Proofs.YtfgggkheadfiaaaR
