/- Plain laws: a log's acts on a disk whose power stays, or goes. No program in sight. -/
import Derived.Test.YtfgggkheadfiaaaRLogP2
import Derived.Test.YtfgggkheadfiaaaRLaw07g
namespace Go.Proofs.YtfgggkheadfiaaaR
open Go Go.RowKit

namespace DiskM
def tick (d : DiskM) : DiskM := if d.left < 0 then d else { d with left := d.left - 1 }
theorem tick_same (d : DiskM) : d.tick.pages = d.pages ∧ d.tick.row = d.row ∧ d.tick.dead = d.dead := by unfold tick; split <;> exact ⟨rfl, rfl, rfl⟩
theorem tick_left (d : DiskM) : (d.left < 0 → d.tick.left = d.left) ∧ (0 < d.left → d.tick.left = d.left - 1) := by
  unfold tick; constructor
  · intro h; rw [if_pos h]
  · intro h; rw [if_neg (by omega)]
theorem counted_zero {d : DiskM} : d.counted 0 = if d.left = 0 then ({ d with dead := true }, 9) else (d.tick, 0) := by
  unfold counted tick
  by_cases h : d.left < 0
  · rw [if_pos (.inr h), if_neg (by omega), if_pos h]
  · rw [if_neg (by omega)]
    by_cases h2 : d.left = 0
    · rw [if_pos h2, if_pos h2]
    · rw [if_neg h2, if_neg h2, if_neg h]
theorem write_in {d : DiskM} (hd : d.dead = false) {j : Nat} (hj : j < d.pages.length) {l : List UInt8} (hl : l.length = 512) :
    d.write (j : Int) l = if d.left = 0 then ({ d with dead := true }, 9) else ({ d.tick with row := d.row ++ [(j, l)] }, 0) := by
  have ha : d.asked (j : Int) l.length = 0 := by
    unfold asked; rw [hd]; simp only [Bool.false_eq_true, if_false]; rw [if_neg (by omega)]
  unfold write
  rw [ha, counted_zero]
  split
  · simp
  · simp [(tick_same d).2.1]
theorem sync_in {d : DiskM} (hd : d.dead = false) (hp : 0 < d.pages.length) :
    d.sync = if d.left = 0 then ({ d with dead := true }, 9) else (d.tick.done fun _ => 512, 0) := by
  have ha : d.asked 0 512 = 0 := by
    unfold asked; rw [hd]; simp only [Bool.false_eq_true, if_false]; rw [if_neg (by omega)]
  unfold sync
  rw [ha, counted_zero]
  split <;> simp
theorem seen_done {d : DiskM} (hw : d.wf) (j : Nat) : (d.done fun _ => 512).seen j = d.seen j := done_seen d.row 0 d.pages j hw.2.2.1 hw.2.2.2.1
theorem seenIn_put (j : Nat) (q : List UInt8) (row : List (Nat × List UInt8)) (base : Nat) (f : Nat → List UInt8) : ∀ m : Nat,
    seenIn j q (row ++ (List.range m).map fun t => (base + t, f t)) = if base ≤ j ∧ j < base + m then f (j - base) else seenIn j q row
  | 0 => by rw [if_neg (by omega)]; simp
  | m + 1 => by
    rw [List.range_succ, List.map_append, ← List.append_assoc, List.map_cons, List.map_nil, seenIn_snoc, seenIn_put j q row base f m]
    by_cases h : base + m = j
    · rw [if_pos h, if_pos (by omega), show j - base = m from by omega]
    · rw [if_neg h]
      by_cases h2 : base ≤ j ∧ j < base + m
      · rw [if_pos h2, if_pos (by omega)]
      · rw [if_neg h2, if_neg (by omega)]
end DiskM

namespace LogM
theorem put_any (l : LogM) (S : BitVec 64) (hS : l.stamp = S) (of' : Nat) (b : List UInt8) : ∀ (k i : Nat) (d : DiskM), d.dead = false → l.first + l.end' + i + k ≤ d.pages.length →
    ∃ m d', m ≤ k ∧ put l of' b k i d = (d', if m = k then 0 else 9) ∧ d'.pages = d.pages ∧ d'.row = d.row ++ ((List.range m).map fun t => (l.first + l.end' + i + t, LeafM.page ⟨S, i + t, of', part b (i + t)⟩)) ∧
      d'.dead = decide (m < k) ∧ (d.left < 0 → m = k ∧ d'.left = d.left) ∧ (0 ≤ d.left → 0 ≤ d'.left ∧ d'.left ≤ d.left)
  | 0, i, d, hd, hr => ⟨0, d, Nat.le_refl _, rfl, rfl, by simp, by simpa using hd, fun _ => ⟨rfl, rfl⟩, fun h => ⟨h, Int.le_refl _⟩⟩
  | k + 1, i, d, hd, hr => by
    have hw := DiskM.write_in hd (j := l.first + l.end' + i) (by omega) (l := LeafM.page ⟨l.stamp, i, of', part b i⟩) (LeafM.length_page (length_part _ _))
    unfold put
    simp only [hw]
    by_cases h0 : d.left = 0
    · rw [if_pos h0]
      refine ⟨0, { d with dead := true }, by omega, by rw [if_pos (show ((9 : Int) ≠ 0) from by omega), if_neg (by omega)], rfl, by simp, by simp, fun h => by omega, fun _ => ⟨by show 0 ≤ d.left; omega, Int.le_refl _⟩⟩
    · rw [if_neg h0]
      rw [if_neg (by simp)]
      obtain ⟨t1, t2, t3⟩ := DiskM.tick_same d
      obtain ⟨u1, u2⟩ := DiskM.tick_left d
      obtain ⟨m, d', q1, q2, q3, q4, q5, q6, q7⟩ := put_any l S hS of' b k (i + 1) { d.tick with row := d.row ++ [(l.first + l.end' + i, LeafM.page ⟨l.stamp, i, of', part b i⟩)] } (by show d.tick.dead = false; rw [t3]; exact hd) (by show _ ≤ d.tick.pages.length; rw [t1]; omega)
      refine ⟨m + 1, d', by omega, ?_, q3.trans t1, ?_, ?_, ?_, ?_⟩
      · rw [q2]
        by_cases hm : m = k
        · rw [if_pos hm, if_pos (by omega)]
        · rw [if_neg hm, if_neg (by omega)]
      · rw [q4]
        show (d.row ++ _) ++ _ = _
        rw [List.append_assoc, List.range_succ_eq_map, List.map_cons, List.map_map, hS]
        congr 1
        simp only [List.singleton_append, Nat.add_zero]
        congr 1
        apply List.map_congr_left
        intro t _
        simp only [Function.comp, Nat.succ_eq_add_one]
        rw [show i + 1 + t = i + (t + 1) from by omega, show l.first + l.end' + (i + 1) + t = l.first + l.end' + i + (t + 1) from by omega]
      · rw [q5]; simp
      · intro h
        obtain ⟨a, b⟩ := q6 (by show d.tick.left < 0; rw [u1 h]; exact h)
        exact ⟨by omega, b.trans (u1 h)⟩
      · intro h
        have hx := u2 (by omega)
        obtain ⟨a, b⟩ := q7 (by show 0 ≤ d.tick.left; omega)
        change d'.left ≤ d.tick.left at b
        exact ⟨a, by omega⟩

/-- The pages behind a record that was put from page e on. -/
def putPages (pages : List (List UInt8)) (e : Nat) (S : BitVec 64) (b : List UInt8) : List (List UInt8) :=
  (List.range pages.length).map fun j => if e ≤ j ∧ j < e + many b then LeafM.page ⟨S, j - e, many b, part b (j - e)⟩ else pages.getD j []
def headPages (pages : List (List UInt8)) (S : BitVec 64) : List (List UInt8) := pages.set 0 (LeafM.page ⟨S, 0, 0, []⟩)
theorem length_putPages (pages : List (List UInt8)) (e : Nat) (S : BitVec 64) (b : List UInt8) : (putPages pages e S b).length = pages.length := by simp [putPages]
theorem length_headPages (pages : List (List UInt8)) (S : BitVec 64) : (headPages pages S).length = pages.length := by simp [headPages]
theorem get_putPages (pages : List (List UInt8)) (e : Nat) (S : BitVec 64) (b : List UInt8) (j : Nat) : (putPages pages e S b)[j]? = if j < pages.length then (if e ≤ j ∧ j < e + many b then some (LeafM.page ⟨S, j - e, many b, part b (j - e)⟩) else pages[j]?) else none := by
  unfold putPages
  rw [List.getElem?_map]
  by_cases hj : j < pages.length
  · rw [List.getElem?_range hj, if_pos hj]
    simp only [Option.map_some]
    split
    · rfl
    · rw [List.getD_eq_getElem?_getD, List.getElem?_eq_getElem hj]; rfl
  · rw [List.getElem?_eq_none (by simp; omega), if_neg hj]; rfl

theorem length_seenPages (d : DiskM) (f n : Nat) : (seenPages d f n).length = n := by simp [seenPages]
theorem get_seenPages (d : DiskM) (f n j : Nat) (hj : j < n) : (seenPages d f n)[j]? = some (d.seen (f + j)) := by
  simp [seenPages, hj]
theorem seenPages_ext {d : DiskM} {f n : Nat} {l : List (List UInt8)} (hl : l.length = n) (h : ∀ j, j < n → l[j]? = some (d.seen (f + j))) : seenPages d f n = l := by
  apply List.ext_getElem?
  intro j
  by_cases hj : j < n
  · rw [get_seenPages _ _ _ _ hj, h j hj]
  · rw [List.getElem?_eq_none (by rw [length_seenPages]; omega), List.getElem?_eq_none (by omega)]

/-- The log is what its pages tell. -/
def Fine (s : LogM × DiskM) : Prop := s.1 = ofPages s.1.first (seenPages s.2 s.1.first s.1.n) ∧ s.1.first + s.1.n ≤ s.2.pages.length ∧ 2 ≤ s.1.n ∧ s.2.wf

theorem ofPages_n (f : Nat) (pages : List (List UInt8)) : (ofPages f pages).n = pages.length ∧ (ofPages f pages).first = f ∧ (ofPages f pages).dead = false ∧ (ofPages f pages).stamp = newest pages := ⟨rfl, rfl, rfl, rfl⟩
theorem end_le (f : Nat) (pages : List (List UInt8)) (h1 : 1 ≤ pages.length) : 1 ≤ (ofPages f pages).end' ∧ (ofPages f pages).end' ≤ pages.length := by
  show 1 ≤ (if isHead (leavesOf pages) then (readAll (leavesOf pages)).1 else 1) ∧ (if isHead (leavesOf pages) then (readAll (leavesOf pages)).1 else 1) ≤ _
  split
  · rename_i hh
    have hl1 := isHead_len hh
    have hle := (readL_mono (leavesOf pages) (leavesOf pages).length (1, headStamp (leavesOf pages), [])).2 hl1
    have hge := (readL_mono (leavesOf pages) (leavesOf pages).length (1, headStamp (leavesOf pages), [])).1
    have : (leavesOf pages).length ≤ pages.length := by
      unfold leavesOf; rw [List.length_map]; exact (List.takeWhile_sublist _).length_le
    exact ⟨hge, Nat.le_trans hle this⟩
  · omega

theorem head8 {x : LeafM} (h : x.bytes.length ≤ 480) : num (x.page.take 8) = x.stamp ∧ num (x.page.drop 504) = x.stamp := by
  obtain ⟨e1, _, _, _, _, e2⟩ := LeafM.page_parts x h
  rw [e1, e2, num_be8]; exact ⟨rfl, rfl⟩
theorem newest_put {pages : List (List UInt8)} {e : Nat} {S : BitVec 64} {b : List UInt8} (hS : (newest pages).toNat ≤ S.toNat) (he : e + many b ≤ pages.length) : newest (putPages pages e S b) = S := by
  apply BitVec.eq_of_toNat_eq
  apply Nat.le_antisymm
  · rw [newest_le]
    intro p hp
    obtain ⟨j, hj⟩ := List.mem_iff_getElem?.1 hp
    rw [get_putPages] at hj
    split at hj
    · split at hj
      · simp only [Option.some.injEq] at hj
        subst hj
        obtain ⟨a, c⟩ := head8 (x := ⟨S, j - e, many b, part b (j - e)⟩) (length_part _ _)
        rw [a, c]; exact ⟨Nat.le_refl _, Nat.le_refl _⟩
      · have := newest_ge (List.mem_of_getElem? hj); omega
    · cases hj
  · have hk := many_pos b
    have hm : LeafM.page ⟨S, 0, many b, part b 0⟩ ∈ putPages pages e S b := by
      apply List.mem_of_getElem? (i := e)
      rw [get_putPages, if_pos (by omega), if_pos (by omega), Nat.sub_self]
    have := (newest_ge hm).1
    rw [(head8 (x := ⟨S, 0, many b, part b 0⟩) (length_part _ _)).1] at this
    exact this
theorem newest_head {pages : List (List UInt8)} {S : BitVec 64} (hS : (newest pages).toNat ≤ S.toNat) (h1 : 1 ≤ pages.length) : newest (headPages pages S) = S := by
  apply BitVec.eq_of_toNat_eq
  apply Nat.le_antisymm
  · rw [newest_le]
    intro p hp
    rcases List.mem_or_eq_of_mem_set hp with hp | rfl
    · have := newest_ge hp; omega
    · obtain ⟨a, c⟩ := head8 (x := ⟨S, 0, 0, []⟩) (by simp)
      rw [a, c]; exact ⟨Nat.le_refl _, Nat.le_refl _⟩
  · have hm : LeafM.page ⟨S, 0, 0, []⟩ ∈ headPages pages S := by
      apply List.mem_of_getElem? (i := 0)
      rw [headPages, List.getElem?_set_self (by omega)]
    have := (newest_ge hm).1
    rw [(head8 (x := ⟨S, 0, 0, []⟩) (by simp)).1] at this
    exact this
theorem ofPages_head {f : Nat} {pages : List (List UInt8)} {S : BitVec 64} (hS : (newest pages).toNat < S.toNat) (h1 : 1 ≤ pages.length) :
    ofPages f (headPages pages S) = { first := f, n := pages.length, stamp := S, headed := true, end' := 1, records := [], dead := false } := by
  obtain ⟨a, b⟩ := (records_head (pages := pages) (pages' := headPages pages S) hS (fun j hj => by rw [headPages, List.getElem?_set_ne (by omega)]) (.inr (.inl (by rw [headPages, List.getElem?_set_self (by omega)])))).1 (by rw [headPages, List.getElem?_set_self (by omega)])
  unfold ofPages
  simp only [a, b, if_true, newest_head (Nat.le_of_lt hS) h1, length_headPages]
theorem ofPages_put {f : Nat} {pages : List (List UInt8)} {S : BitVec 64} {b : List UInt8} (hh : (ofPages f pages).headed = true) (hS : (newest pages).toNat < S.toNat) (hk : many b < 65536) (he : (ofPages f pages).end' + many b ≤ pages.length) :
    ofPages f (putPages pages (ofPages f pages).end' S b) = { first := f, n := pages.length, stamp := S, headed := true, end' := (ofPages f pages).end' + many b, records := (ofPages f pages).records ++ [b], dead := false } := by
  have hh' : isHead (leavesOf pages) = true := hh
  have hee : (ofPages f pages).end' = (readAll (leavesOf pages)).1 := by show (if isHead (leavesOf pages) then _ else _) = _; rw [if_pos hh']
  have hrr : (ofPages f pages).records = (readAll (leavesOf pages)).2.2 := by show (if isHead (leavesOf pages) then _ else _) = _; rw [if_pos hh']
  rw [hrr]
  rw [hee] at he ⊢
  have hall : ∀ i, i < many b → (putPages pages (readAll (leavesOf pages)).1 S b)[(readAll (leavesOf pages)).1 + i]? = some (LeafM.page ⟨S, i, many b, part b i⟩) := fun i hi => by
    rw [get_putPages, if_pos (by omega), if_pos (by omega), Nat.add_sub_cancel_left]
  obtain ⟨a, c⟩ := records_put (pages := pages) (pages' := putPages pages (readAll (leavesOf pages)).1 S b) (b := b) hh' hS hk
    (fun j hj => by
      rw [get_putPages]
      split
      · rw [if_neg (by omega)]
      · rw [List.getElem?_eq_none (by omega)])
    (fun i hi => ⟨_, hall i hi, .inr (.inl rfl)⟩)
  rcases c with ⟨_, c⟩ | ⟨c1, c2⟩
  · exact (c hall).elim
  · unfold ofPages
    simp only [a, c1, c2, if_true, newest_put (Nat.le_of_lt hS) he, length_putPages]
end LogM
end Go.Proofs.YtfgggkheadfiaaaR
