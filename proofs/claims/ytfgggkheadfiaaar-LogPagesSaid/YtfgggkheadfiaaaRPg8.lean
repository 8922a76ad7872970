/- Plain laws: what a log's act leaves, whether the power stays or goes in its midst. No program in sight. -/
import Derived.Deep.AppendSrc
import Derived.Test.YtfgggkheadfiaaaRPg2
import Derived.Test.YtfgggkheadfiaaaRPg3
import Derived.Test.YtfgggkheadfiaaaRPg7
namespace Go.Proofs.YtfgggkheadfiaaaR
open Go Go.RowKit

namespace LogM
/-- A disk but for one part is as another. -/
def Oth (f n : Nat) (d d' : DiskM) : Prop := d'.pages.length = d.pages.length ∧ ∀ j, (j < f ∨ f + n ≤ j) → d'.seen j = d.seen j
theorem Oth.refl (f n : Nat) (d : DiskM) : Oth f n d d := ⟨rfl, fun _ _ => rfl⟩
theorem Oth.trans {f n : Nat} {d d1 d2 : DiskM} (h : Oth f n d d1) (g : Oth f n d1 d2) : Oth f n d d2 := ⟨g.1.trans h.1, fun j hj => (g.2 j hj).trans (h.2 j hj)⟩
/-- The log is what its pages tell, the power is on, and nothing waits. -/
structure Good (K : Nat) (s : LogM × DiskM) : Prop where
  dd : s.2.dead = false
  row : s.2.row = []
  fine : Fine s
  pg : ∀ j, j < s.1.n → PageOk K (s.2.seen (s.1.first + j))
theorem Good.ld {K : Nat} {s : LogM × DiskM} (h : Good K s) : s.1.dead = false := by rw [h.fine.1]; rfl
theorem Good.ends {K : Nat} {s : LogM × DiskM} (h : Good K s) : 1 ≤ s.1.end' ∧ s.1.end' ≤ s.1.n := by
  have := end_le s.1.first (seenPages s.2 s.1.first s.1.n) (by rw [length_seenPages]; have := h.fine.2.2.1; omega)
  rw [length_seenPages, ← h.fine.1] at this; exact this
theorem Good.up {K : Nat} {s : LogM × DiskM} (h : Good K s) (hl : s.2.left < 0) : Up s := ⟨h.ld, h.dd, hl, h.fine.2.1, h.fine.2.2.1, h.ends.1, h.ends.2, h.row⟩
theorem num8 {p : List UInt8} (h : p.length = 512) : (num (p.take 8)).toNat = numN (p.take 8) ∧ (num (p.drop 504)).toNat = numN (p.drop 504) := ⟨num_small (by simp; omega), num_small (by simp; omega)⟩
theorem Good.newest {K : Nat} {s : LogM × DiskM} (h : Good K s) : newest (seenPages s.2 s.1.first s.1.n) = s.1.stamp := by
  have := congrArg LogM.stamp h.fine.1
  exact this.symm
theorem mem_seen {d : DiskM} {f n j : Nat} (hj : j < n) : d.seen (f + j) ∈ seenPages d f n := List.mem_of_getElem? (get_seenPages d f n j hj)
theorem of_mem_seen {d : DiskM} {f n : Nat} {p : List UInt8} (h : p ∈ seenPages d f n) : ∃ j, j < n ∧ p = d.seen (f + j) := by
  unfold seenPages at h
  simp only [List.mem_map, List.mem_range] at h
  obtain ⟨j, hj, rfl⟩ := h
  exact ⟨j, hj, rfl⟩
theorem newest_seen {K f n : Nat} {d : DiskM} (h : ∀ j, j < n → PageOk K (d.seen (f + j))) : (LogM.newest (seenPages d f n)).toNat ≤ K := by
  rw [newest_le]
  intro p hp
  obtain ⟨j, hj, rfl⟩ := of_mem_seen hp
  obtain ⟨h1, h2, h3, -⟩ := h j hj
  obtain ⟨e1, e2⟩ := num8 h1
  rw [e1, e2]; exact ⟨h2, h3⟩
theorem Good.stamp_le {K : Nat} {s : LogM × DiskM} (h : Good K s) : s.1.stamp.toNat ≤ K := by rw [← h.newest]; exact newest_seen h.pg
theorem Good.page {K : Nat} {s : LogM × DiskM} (h : Good K s) {j : Nat} (hj : j < s.1.n) : PageOk s.1.stamp.toNat (s.2.seen (s.1.first + j)) := by
  obtain ⟨h1, h2, h3, h4⟩ := h.pg j hj
  have hn := newest_ge (mem_seen (d := s.2) (f := s.1.first) hj)
  obtain ⟨e1, e2⟩ := num8 h1
  rw [e1, e2, h.newest] at hn
  exact ⟨h1, hn.1, hn.2, h4⟩
theorem Good.next {K : Nat} {s : LogM × DiskM} (h : Good K s) (hK : K < 65536) : (s.1.stamp + 1#64).toNat = s.1.stamp.toNat + 1 := by
  have := h.stamp_le
  rw [BitVec.toNat_add]
  simp
  omega

/-- Writes of pages that follow one another, and a Sync. -/
theorem puts_any {d : DiskM} (hd : d.dead = false) (hw : d.wf) (hrow : d.row = []) (l : LogM) (of' : Nat) (b : List UInt8) (k : Nat) (hf : l.first + l.end' + k ≤ d.pages.length) :
    (∃ d1 d', put l of' b k 0 d = (d1, 0) ∧ d1.sync = (d', 0) ∧ d'.dead = false ∧ d'.row = [] ∧ d'.wf ∧ d'.pages.length = d.pages.length ∧ (d.left < 0 → d'.left = d.left) ∧
      ∀ j, d'.seen j = if l.first + l.end' ≤ j ∧ j < l.first + l.end' + k then LeafM.page ⟨l.stamp, j - (l.first + l.end'), of', part b (j - (l.first + l.end'))⟩ else d.seen j) ∨
    (0 ≤ d.left ∧ ∃ d', (put l of' b k 0 d = (d', 9) ∨ ∃ d1, put l of' b k 0 d = (d1, 0) ∧ d1.sync = (d', 9)) ∧ d'.dead = true ∧ ∃ m, m ≤ k ∧ d'.pages = d.pages ∧
      d'.row = (List.range m).map fun t => (l.first + l.end' + t, LeafM.page ⟨l.stamp, t, of', part b t⟩)) := by
  obtain ⟨m, d1, q1, q2, q3, q4, q5, q6, q7⟩ := put_any l l.stamp rfl of' b k 0 d hd hf
  rw [hrow, List.nil_append] at q4
  simp only [Nat.add_zero, Nat.zero_add] at q4
  by_cases hm : m = k
  · subst hm
    rw [if_pos rfl] at q2
    have hd1 : d1.dead = false := by rw [q5]; simp
    have hp1 : 0 < d1.pages.length := by rw [q3]; have := hw.1; omega
    have hs := DiskM.sync_in hd1 hp1
    obtain ⟨t1, t2, t3⟩ := DiskM.tick_same d1
    by_cases h0 : d1.left = 0
    · rw [if_pos h0] at hs
      right
      refine ⟨?_, _, .inr ⟨d1, q2, hs⟩, rfl, m, Nat.le_refl _, q3, q4⟩
      by_cases hn : d.left < 0
      · have := (q6 hn).2; omega
      · omega
    · rw [if_neg h0] at hs
      left
      have hx : ∀ x ∈ d1.row, x.1 < d1.pages.length ∧ x.2.length = 512 := by
        rw [q4, q3]
        intro x hx
        simp only [List.mem_map, List.mem_range] at hx
        obtain ⟨t, ht, rfl⟩ := hx
        exact ⟨by show l.first + l.end' + t < _; omega, LeafM.length_page (length_part _ _)⟩
      have hq : ∀ p ∈ d1.pages, p.length = 512 := by rw [q3]; exact hw.2.2.1
      have hpw := DiskM.donePages_wf (fun _ => 512) (by simp) d1.pages hq d1.row hx
      have hlen : (d1.tick.done fun _ => 512).pages.length = d.pages.length := by
        show (DiskM.donePages _ d1.tick.pages d1.tick.row).length = _
        rw [t1, t2, hpw.1, q3]
      have hleft : -1 ≤ d1.tick.left ∧ d1.tick.left ≤ 9223372036854775807 ∧ (d.left < 0 → d1.tick.left = d.left) := by
        have h5 := hw.2.2.2.2
        obtain ⟨u1, u2⟩ := DiskM.tick_left d1
        by_cases hn : d.left < 0
        · have := (q6 hn).2
          have := u1 (by omega)
          refine ⟨by omega, by omega, fun _ => by omega⟩
        · have := q7 (by omega)
          have := u2 (by omega)
          refine ⟨by omega, by omega, fun h => by omega⟩
      refine ⟨d1, _, q2, hs, t3.trans hd1, rfl, ?_, hlen, hleft.2.2, fun j => ?_⟩
      · refine ⟨by rw [hlen]; exact hw.1, by rw [hlen]; exact hw.2.1, ?_, (by intro x hx; cases hx), hleft.1, hleft.2.1⟩
        show ∀ p ∈ DiskM.donePages _ d1.tick.pages d1.tick.row, _
        rw [t1, t2]; exact hpw.2
      · show (DiskM.donePages (fun _ => 512) d1.tick.pages d1.tick.row).getD j [] = _
        rw [t1, t2, q3, q4, DiskM.torn_pages _ _ _ _ _ (by omega)]
        have hsj : d.seen j = d.pages.getD j [] := by unfold DiskM.seen; rw [hrow]; rfl
        rw [hsj]
        split
        · rename_i hj
          unfold DiskM.splicePage
          rw [List.take_of_length_le (by rw [LeafM.length_page (length_part _ _)]; omega), List.drop_eq_nil_of_le (by rw [DiskM.getD_wf hw.2.2.1 (by omega)]; omega), List.append_nil]
        · rfl
  · rw [if_neg hm] at q2
    right
    refine ⟨?_, d1, .inl q2, ?_, m, q1, q3, q4⟩
    · by_cases hn : d.left < 0
      · exact (hm (q6 hn).1).elim
      · omega
    · rw [q5]; simp; omega
/-- The power comes again. -/
theorem torn_any {d d' : DiskM} (hw : d.wf) (hrow : d.row = []) (hp : d'.pages = d.pages) (base m : Nat) (g : Nat → List UInt8) (hg : ∀ t, (g t).length = 512) (hr : d'.row = (List.range m).map fun t => (base + t, g t)) (hm : base + m ≤ d.pages.length) (fates : List Int) :
    (d'.restart fates).dead = false ∧ (d'.restart fates).row = [] ∧ (d'.restart fates).wf ∧ (d'.restart fates).left = -1 ∧ (d'.restart fates).pages.length = d.pages.length ∧
      ∀ j, (d'.restart fates).seen j = if base ≤ j ∧ j < base + m then DiskM.splicePage (DiskM.fate fates (j - base)) (g (j - base)) (d.seen j) else d.seen j := by
  have hx : ∀ x ∈ d'.row, x.1 < d'.pages.length ∧ x.2.length = 512 := by
    rw [hr, hp]
    intro x hx
    simp only [List.mem_map, List.mem_range] at hx
    obtain ⟨t, ht, rfl⟩ := hx
    exact ⟨by show base + t < _; omega, hg _⟩
  have hpw := DiskM.donePages_wf (DiskM.fate fates) (DiskM.fate_le fates) d'.pages (by rw [hp]; exact hw.2.2.1) d'.row hx
  have hlen : (d'.restart fates).pages.length = d.pages.length := by
    show (DiskM.donePages _ d'.pages d'.row).length = _
    rw [hpw.1, hp]
  refine ⟨rfl, rfl, ⟨by rw [hlen]; exact hw.1, by rw [hlen]; exact hw.2.1, hpw.2, (by intro x hx; cases hx), by show (-1 : Int) ≤ -1; omega, by show (-1 : Int) ≤ _; omega⟩, rfl, hlen, fun j => ?_⟩
  show (DiskM.donePages _ d'.pages d'.row).getD j [] = _
  rw [hp, hr, DiskM.torn_pages _ _ _ _ _ hm]
  have hsj : d.seen j = d.pages.getD j [] := by unfold DiskM.seen; rw [hrow]; rfl
  rw [hsj]

/-- Behind a loss of power: the part tells a log again, with one of two rows of records. -/
structure Back (K f n : Nat) (d d2 : DiskM) (R R' : List (List UInt8)) : Prop where
  good : Good K (ofPages f (seenPages d2 f n), d2)
  left : d2.left = -1
  oth : Oth f n d d2
  recs : (ofPages f (seenPages d2 f n)).records = R ∨ (ofPages f (seenPages d2 f n)).records = R'
theorem seen_n (f n : Nat) (d : DiskM) : (ofPages f (seenPages d f n)).n = n := length_seenPages d f n
theorem good_back {K f n : Nat} {d2 : DiskM} (h1 : d2.dead = false) (h2 : d2.row = []) (h3 : d2.wf) (h4 : f + n ≤ d2.pages.length) (h5 : 2 ≤ n) (h6 : ∀ j, j < n → PageOk K (d2.seen (f + j))) : Good K (ofPages f (seenPages d2 f n), d2) := by
  refine ⟨h1, h2, ⟨?_, ?_, ?_, h3⟩, ?_⟩
  · show ofPages f (seenPages d2 f n) = ofPages f (seenPages d2 f (ofPages f (seenPages d2 f n)).n)
    rw [seen_n]
  · show f + (ofPages f (seenPages d2 f n)).n ≤ _
    rw [seen_n]; exact h4
  · show 2 ≤ (ofPages f (seenPages d2 f n)).n
    rw [seen_n]; exact h5
  · show ∀ j, j < (ofPages f (seenPages d2 f n)).n → _
    rw [seen_n]; exact h6

theorem ofPages_torn {f : Nat} {pages pages' : List (List UInt8)} {S : BitVec 64} {b : List UInt8} (hh : (ofPages f pages).headed = true) (hS : (LogM.newest pages).toNat < S.toNat) (hk : many b < 65536)
    (hout : ∀ j, (j < (ofPages f pages).end' ∨ (ofPages f pages).end' + many b ≤ j) → pages'[j]? = pages[j]?)
    (hin : ∀ i, i < many b → ∃ p', pages'[(ofPages f pages).end' + i]? = some p' ∧ (pages[(ofPages f pages).end' + i]? = some p' ∨ p' = LeafM.page ⟨S, i, many b, part b i⟩ ∨ (saidL p').2 = false)) :
    (ofPages f pages').records = (ofPages f pages).records ∨ (ofPages f pages').records = (ofPages f pages).records ++ [b] := by
  have hh' : isHead (leavesOf pages) = true := hh
  have hee : (ofPages f pages).end' = (readAll (leavesOf pages)).1 := by show (if isHead (leavesOf pages) then _ else _) = _; rw [if_pos hh']
  have hrr : (ofPages f pages).records = (readAll (leavesOf pages)).2.2 := by show (if isHead (leavesOf pages) then _ else _) = _; rw [if_pos hh']
  rw [hee] at hout hin
  obtain ⟨a, c⟩ := records_put hh' hS hk hout hin
  have hr' : (ofPages f pages').records = (readAll (leavesOf pages')).2.2 := by show (if isHead (leavesOf pages') then _ else _) = _; rw [if_pos a]
  rw [hrr, hr']
  rcases c with ⟨c, -⟩ | ⟨-, c⟩
  · left; rw [c]
  · right; rw [c]
theorem ofPages_torn_head {f : Nat} {pages pages' : List (List UInt8)} {S : BitVec 64} (hS : (LogM.newest pages).toNat < S.toNat) (hout : ∀ j, 1 ≤ j → pages'[j]? = pages[j]?)
    (hin : pages'[0]? = pages[0]? ∨ pages'[0]? = some (LeafM.page ⟨S, 0, 0, []⟩) ∨ ∃ p, pages'[0]? = some p ∧ (saidL p).2 = false) :
    (ofPages f pages').records = (ofPages f pages).records ∨ (ofPages f pages').records = [] := by
  obtain ⟨a, c⟩ := records_head hS hout hin
  by_cases h : pages'[0]? = some (LeafM.page ⟨S, 0, 0, []⟩)
  · right
    obtain ⟨a1, a2⟩ := a h
    show (if isHead (leavesOf pages') then (readAll (leavesOf pages')).2.2 else []) = []
    rw [if_pos a1, a2]
  · rcases c h with c | c
    · left
      show (if isHead (leavesOf pages') then (readAll (leavesOf pages')).2.2 else []) = (if isHead (leavesOf pages) then (readAll (leavesOf pages)).2.2 else [])
      rw [c]
    · right
      show (if isHead (leavesOf pages') then (readAll (leavesOf pages')).2.2 else []) = []
      rw [c]; rfl

theorem part_nil (i : Nat) : part [] i = [] := by simp [part]
theorem seen_none {d : DiskM} {f n j : Nat} (hj : n ≤ j) : (seenPages d f n)[j]? = none := List.getElem?_eq_none (by rw [length_seenPages]; exact hj)
/-- The log with a new head. -/
def reheaded (l : LogM) : LogM := { l with stamp := l.stamp + 1#64, headed := true, records := [], end' := 1 }
theorem head_cases {K : Nat} {s : LogM × DiskM} (h : Good K s) (hK : K + 1 < 65536) :
    (∃ d', head s = (({ s.1 with stamp := s.1.stamp + 1#64 }, d'), 0) ∧ Good (K + 1) (reheaded s.1, d') ∧ Oth s.1.first s.1.n s.2 d' ∧ (s.2.left < 0 → d'.left = s.2.left)) ∨
    (0 ≤ s.2.left ∧ ∃ d', head s = (({ s.1 with stamp := s.1.stamp + 1#64 }, d'), 9) ∧ d'.dead = true ∧ d'.row.length ≤ 4096 ∧ ∀ fates, Back (K + 256) s.1.first s.1.n s.2 (d'.restart fates) s.1.records []) := by
  have hfit := h.fine.2.1
  have hn2 := h.fine.2.2.1
  have hw := h.fine.2.2.2
  have hst := h.stamp_le
  have hnx := h.next (by omega)
  obtain ⟨S, hS⟩ : ∃ S, s.1.stamp + 1#64 = S := ⟨_, rfl⟩
  have hput : ∀ d, put { s.1 with stamp := S, end' := 0 } 0 [] 1 0 d = (let r := d.write s.1.first (LeafM.page ⟨S, 0, 0, []⟩); if r.2 ≠ 0 then r else (r.1, 0)) := fun d => by
    show (let r := d.write ((s.1.first + 0 + 0 : Nat) : Int) (LeafM.page ⟨S, 0, 0, part [] 0⟩); if r.2 ≠ 0 then r else put _ _ _ 0 _ r.1) = _
    rw [part_nil]; rfl
  have hnew : (LogM.newest (seenPages s.2 s.1.first s.1.n)).toNat < S.toNat := by rw [h.newest, ← hS, hnx]; omega
  have hhead : head s = (let r := s.2.write (s.1.first : Int) (LeafM.page ⟨S, 0, 0, []⟩); if r.2 ≠ 0 then (({ s.1 with stamp := S }, r.1), r.2) else (({ s.1 with stamp := S }, r.1.sync.1), r.1.sync.2)) := by
    unfold head; rw [hS]
  rcases puts_any h.dd hw h.row { s.1 with stamp := S, end' := 0 } 0 [] 1 (by show s.1.first + 0 + 1 ≤ _; omega) with ⟨d1, d', q1, q2, q3, q4, q5, q6, q7, q8⟩ | ⟨q0, d', q1, q2, m, q3, q4, q5⟩
  · left
    change ∀ j, d'.seen j = if s.1.first + 0 ≤ j ∧ j < s.1.first + 0 + 1 then LeafM.page ⟨S, _, 0, part [] _⟩ else _ at q8
    have hpages : seenPages d' s.1.first s.1.n = headPages (seenPages s.2 s.1.first s.1.n) S := by
      refine seenPages_ext (by rw [length_headPages, length_seenPages]) fun j hj => ?_
      rw [q8, headPages]
      by_cases h0 : j = 0
      · subst h0
        rw [List.getElem?_set_self (by rw [length_seenPages]; omega), if_pos (by omega), part_nil]
        simp
      · rw [List.getElem?_set_ne (by omega), if_neg (by omega), get_seenPages _ _ _ _ hj]
    have hofp := ofPages_head (f := s.1.first) (S := S) hnew (by rw [length_seenPages]; omega)
    rw [length_seenPages, ← hpages] at hofp
    refine ⟨d', ?_, ⟨q3, q4, ⟨?_, by show s.1.first + s.1.n ≤ d'.pages.length; omega, hn2, q5⟩, ?_⟩, ⟨q6, fun j hj => ?_⟩, q7⟩
    · rw [hput] at q1
      rw [hhead, hS]
      revert q1
      generalize s.2.write (s.1.first : Int) (LeafM.page ⟨S, 0, 0, []⟩) = r
      intro q1
      by_cases hr : r.2 = 0
      · simp only [hr, ne_eq, not_true_eq_false, if_false, Prod.mk.injEq, and_true] at q1
        simp only [hr, ne_eq, not_true_eq_false, if_false, q1, q2]
      · simp only [ne_eq, hr, not_false_eq_true, if_true] at q1
        rw [q1] at hr; exact (hr rfl).elim
    · show reheaded s.1 = ofPages s.1.first (seenPages d' s.1.first s.1.n)
      rw [hofp, reheaded, hS, h.ld]
    · intro j hj
      change j < s.1.n at hj
      show PageOk _ (d'.seen (s.1.first + j))
      rw [q8]
      split
      · exact pageOk_page (by rw [part_nil]; simp) (by show S.toNat ≤ _; rw [← hS, hnx]; omega)
      · exact (h.pg j hj).mono (by omega)
    · rw [q8, if_neg (by omega)]
  · right
    have hrl : d'.row.length ≤ 4096 := by rw [q5]; simp only [List.length_map, List.length_range]; have := hw.2.1; omega
    refine ⟨q0, d', ?_, q2, hrl, fun fates => ?_⟩
    · rw [hhead, hS]
      simp only [hput] at q1
      revert q1
      generalize s.2.write (s.1.first : Int) (LeafM.page ⟨S, 0, 0, []⟩) = r
      intro q1
      by_cases hr : r.2 = 0
      · simp only [hr, ne_eq, not_true_eq_false, if_false, Prod.mk.injEq, and_true] at q1
        rcases q1 with ⟨-, q1⟩ | ⟨d1, q1, q1'⟩
        · cases q1
        · simp only [hr, ne_eq, not_true_eq_false, if_false, q1, q1']
      · simp only [ne_eq, hr, not_false_eq_true, if_true] at q1
        rcases q1 with q1 | ⟨d1, q1, -⟩
        · rw [q1]; simp
        · rw [q1] at hr; exact (hr rfl).elim
    · obtain ⟨t1, t2, t3, t4, t5, t6⟩ := torn_any hw h.row q4 (s.1.first + 0) m _ (fun t => LeafM.length_page (length_part _ _)) q5 (by omega) fates
      simp only [part_nil] at t6
      have hseen : ∀ j, j < s.1.n → ((d'.restart fates).seen (s.1.first + j) = s.2.seen (s.1.first + j) ∨ j = 0 ∧ ((d'.restart fates).seen s.1.first = LeafM.page ⟨S, 0, 0, []⟩ ∨ (saidL ((d'.restart fates).seen s.1.first)).2 = false)) ∧ PageOk (K + 256) ((d'.restart fates).seen (s.1.first + j)) := by
        intro j hj
        rw [t6 (s.1.first + j)]
        split
        · rename_i hc
          obtain rfl : j = 0 := by omega
          have hm0 : 0 < m := by omega
          have ht := torn_page (K := s.1.stamp.toNat) ⟨S, 0, 0, []⟩ (by simp) (by show _ < S.toNat; rw [← hS, hnx]; omega) (by show S.toNat < _; rw [← hS, hnx]; omega) (h.page hj) (DiskM.fate fates 0)
          have e0 := t6 s.1.first
          rw [if_pos (by omega)] at e0
          simp only [Nat.add_zero, Nat.sub_self] at e0 ht ⊢
          rw [e0]
          obtain ⟨ht1, ht2⟩ := ht
          refine ⟨?_, ht2.mono (by show S.toNat + 255 ≤ _; rw [← hS, hnx]; omega)⟩
          rcases ht1 with ht1 | ht1 | ht1
          · exact .inl ht1
          · exact .inr ⟨trivial, .inl ht1⟩
          · exact .inr ⟨trivial, .inr ht1⟩
        · exact ⟨.inl rfl, (h.pg j hj).mono (by omega)⟩
      refine ⟨good_back t1 t2 t3 (by omega) hn2 (fun j hj => (hseen j hj).2), t4, ⟨t5, fun j hj => by rw [t6, if_neg (by omega)]⟩, ?_⟩
      have hrec := ofPages_torn_head (f := s.1.first) (pages := seenPages s.2 s.1.first s.1.n) (pages' := seenPages (d'.restart fates) s.1.first s.1.n) (S := S) hnew
        (fun j hj => by
          by_cases hjn : j < s.1.n
          · rw [get_seenPages _ _ _ _ hjn, get_seenPages _ _ _ _ hjn, t6, if_neg (by omega)]
          · rw [seen_none (by omega), seen_none (by omega)])
        (by
          rw [get_seenPages _ _ _ _ (by omega), get_seenPages _ _ _ _ (by omega)]
          rcases (hseen 0 (by omega)).1 with hx | ⟨-, hx | hx⟩
          · exact .inl (by rw [hx])
          · exact .inr (.inl (by rw [Nat.add_zero, hx]))
          · exact .inr (.inr ⟨_, by rw [Nat.add_zero], hx⟩))
      rw [← h.fine.1] at hrec
      exact hrec
/-- The log with one more record. -/
def recorded (l : LogM) (b : List UInt8) : LogM := { l with stamp := l.stamp + 1#64, records := l.records ++ [b], end' := l.end' + many b }
theorem step3_cases {K : Nat} {s : LogM × DiskM} (h : Good K s) (hh : s.1.headed = true) (hK : K + 1 < 65536) (b : List UInt8) (hm : many b ≤ s.1.n - s.1.end') :
    (∃ d', step3 b s = (({ s.1 with stamp := s.1.stamp + 1#64 }, d'), 0) ∧ Good (K + 1) (recorded s.1 b, d') ∧ Oth s.1.first s.1.n s.2 d' ∧ (s.2.left < 0 → d'.left = s.2.left)) ∨
    (0 ≤ s.2.left ∧ ∃ d', step3 b s = (({ s.1 with stamp := s.1.stamp + 1#64 }, d'), 9) ∧ d'.dead = true ∧ d'.row.length ≤ 4096 ∧ ∀ fates, Back (K + 256) s.1.first s.1.n s.2 (d'.restart fates) s.1.records (s.1.records ++ [b])) := by
  have hfit := h.fine.2.1
  have hn2 := h.fine.2.2.1
  have hw := h.fine.2.2.2
  have hst := h.stamp_le
  have hnx := h.next (by omega)
  have hend := h.ends
  have hmp := many_pos b
  have h4096 := hw.2.1
  obtain ⟨S, hS⟩ : ∃ S, s.1.stamp + 1#64 = S := ⟨_, rfl⟩
  have hnew : (LogM.newest (seenPages s.2 s.1.first s.1.n)).toNat < S.toNat := by rw [h.newest, ← hS, hnx]; omega
  have hofs : (ofPages s.1.first (seenPages s.2 s.1.first s.1.n)).headed = true := by rw [← h.fine.1]; exact hh
  have hofe : (ofPages s.1.first (seenPages s.2 s.1.first s.1.n)).end' = s.1.end' := by rw [← h.fine.1]
  have hofr : (ofPages s.1.first (seenPages s.2 s.1.first s.1.n)).records = s.1.records := by rw [← h.fine.1]
  rcases puts_any h.dd hw h.row { s.1 with stamp := S } (many b) b (many b) (by show s.1.first + s.1.end' + many b ≤ _; omega) with ⟨d1, d', q1, q2, q3, q4, q5, q6, q7, q8⟩ | ⟨q0, d', q1, q2, m, q3, q4, q5⟩
  · left
    change ∀ j, d'.seen j = if s.1.first + s.1.end' ≤ j ∧ j < s.1.first + s.1.end' + many b then LeafM.page ⟨S, j - (s.1.first + s.1.end'), many b, part b _⟩ else _ at q8
    have hpages : seenPages d' s.1.first s.1.n = putPages (seenPages s.2 s.1.first s.1.n) s.1.end' S b := by
      refine seenPages_ext (by rw [length_putPages, length_seenPages]) fun j hj => ?_
      rw [q8, get_putPages, length_seenPages, if_pos hj]
      by_cases hc : s.1.end' ≤ j ∧ j < s.1.end' + many b
      · rw [if_pos hc, if_pos (by omega), show s.1.first + j - (s.1.first + s.1.end') = j - s.1.end' from by omega]
      · rw [if_neg hc, if_neg (by omega), get_seenPages _ _ _ _ hj]
    have hofp := ofPages_put (f := s.1.first) (S := S) (b := b) hofs hnew (by omega) (by rw [hofe, length_seenPages]; omega)
    rw [hofe, hofr, length_seenPages, ← hpages] at hofp
    refine ⟨d', ?_, ⟨q3, q4, ⟨?_, by show s.1.first + s.1.n ≤ d'.pages.length; omega, hn2, q5⟩, ?_⟩, ⟨q6, fun j hj => ?_⟩, q7⟩
    · unfold step3
      rw [hS]
      simp only [q1, ne_eq, not_true_eq_false, if_false, q2]
    · show recorded s.1 b = ofPages s.1.first (seenPages d' s.1.first s.1.n)
      rw [hofp, recorded, hS, h.ld, hh]
    · intro j hj
      change j < s.1.n at hj
      show PageOk _ (d'.seen (s.1.first + j))
      rw [q8]
      split
      · exact pageOk_page (length_part _ _) (by show S.toNat ≤ _; rw [← hS, hnx]; omega)
      · exact (h.pg j hj).mono (by omega)
    · rw [q8, if_neg (by omega)]
  · right
    have hrl : d'.row.length ≤ 4096 := by rw [q5]; simp only [List.length_map, List.length_range]; have := hw.2.1; omega
    refine ⟨q0, d', ?_, q2, hrl, fun fates => ?_⟩
    · unfold step3
      rw [hS]
      rcases q1 with q1 | ⟨d1, q1, q1'⟩
      · simp only [q1]; simp
      · simp only [q1, ne_eq, not_true_eq_false, if_false, q1']
    · obtain ⟨t1, t2, t3, t4, t5, t6⟩ := torn_any hw h.row q4 (s.1.first + s.1.end') m _ (fun t => LeafM.length_page (length_part _ _)) q5 (by omega) fates
      have hseen : ∀ j, j < s.1.n → ((d'.restart fates).seen (s.1.first + j) = s.2.seen (s.1.first + j) ∨ (s.1.end' ≤ j ∧ j < s.1.end' + many b) ∧ ((d'.restart fates).seen (s.1.first + j) = LeafM.page ⟨S, j - s.1.end', many b, part b (j - s.1.end')⟩ ∨ (saidL ((d'.restart fates).seen (s.1.first + j))).2 = false)) ∧ PageOk (K + 256) ((d'.restart fates).seen (s.1.first + j)) := by
        intro j hj
        rw [t6 (s.1.first + j)]
        split
        · rename_i hc
          rw [show s.1.first + j - (s.1.first + s.1.end') = j - s.1.end' from by omega]
          have ht := torn_page (K := s.1.stamp.toNat) ⟨S, j - s.1.end', many b, part b (j - s.1.end')⟩ (length_part _ _) (by show _ < S.toNat; rw [← hS, hnx]; omega) (by show S.toNat < _; rw [← hS, hnx]; omega) (h.page hj) (DiskM.fate fates (j - s.1.end'))
          obtain ⟨ht1, ht2⟩ := ht
          refine ⟨?_, ht2.mono (by show S.toNat + 255 ≤ _; rw [← hS, hnx]; omega)⟩
          rcases ht1 with ht1 | ht1 | ht1
          · exact .inl ht1
          · exact .inr ⟨by omega, .inl ht1⟩
          · exact .inr ⟨by omega, .inr ht1⟩
        · exact ⟨.inl rfl, (h.pg j hj).mono (by omega)⟩
      refine ⟨good_back t1 t2 t3 (by omega) hn2 (fun j hj => (hseen j hj).2), t4, ⟨t5, fun j hj => by rw [t6, if_neg (by omega)]⟩, ?_⟩
      have hrec := ofPages_torn (f := s.1.first) (pages := seenPages s.2 s.1.first s.1.n) (pages' := seenPages (d'.restart fates) s.1.first s.1.n) (S := S) (b := b) hofs hnew (by omega)
        (fun j hj => by
          rw [hofe] at hj
          by_cases hjn : j < s.1.n
          · rw [get_seenPages _ _ _ _ hjn, get_seenPages _ _ _ _ hjn, t6, if_neg (by omega)]
          · rw [seen_none (by omega), seen_none (by omega)])
        (fun i hi => by
          rw [hofe, get_seenPages _ _ _ _ (by omega), get_seenPages _ _ _ _ (by omega)]
          refine ⟨_, rfl, ?_⟩
          rcases (hseen (s.1.end' + i) (by omega)).1 with hx | ⟨-, hx | hx⟩
          · exact .inl (by rw [hx])
          · exact .inr (.inl (by rw [hx, Nat.add_sub_cancel_left]))
          · exact .inr (.inr hx))
      rw [hofr] at hrec
      exact hrec
/-- What Commit may come to. -/
theorem commit_cases {K : Nat} {s : LogM × DiskM} (h : Good K s) (hK : K + 2 < 65536) (b : List UInt8) :
    (s.1.n - s.1.end' < many b ∧ commit b s = (s, 4)) ∨
    (many b ≤ s.1.n - s.1.end' ∧ ∃ s', commit b s = (s', 0) ∧ Good (K + 2) s' ∧ s'.1.records = s.1.records ++ [b] ∧ s'.1.end' = s.1.end' + many b ∧ s'.1.n = s.1.n ∧ s'.1.first = s.1.first ∧ Oth s.1.first s.1.n s.2 s'.2 ∧ (s.2.left < 0 → s'.2.left = s.2.left)) ∨
    (0 ≤ s.2.left ∧ ∃ s', commit b s = (s', 9) ∧ s'.1.dead = true ∧ s'.2.dead = true ∧ s'.2.row.length ≤ 4096 ∧ s'.1.n = s.1.n ∧ s'.1.first = s.1.first ∧ ∀ fates, Back (K + 257) s.1.first s.1.n s.2 (s'.2.restart fates) s.1.records (s.1.records ++ [b])) := by
  by_cases hm : s.1.n - s.1.end' < many b
  · exact .inl ⟨hm, commit_full h.ld h.dd b hm⟩
  right
  have hstep1 : step1 b s = (s, 0) := by unfold step1; rw [if_neg hm]
  have hcom : commit b s = steps [step2, step3 b, step4 b] s := by
    unfold commit alive
    rw [h.ld, h.dd]
    simp only [Bool.or_self, Bool.false_eq_true, if_false]
    rw [steps, hstep1]; simp
  rw [hcom]
  have h2 : (∃ s2, step2 s = (s2, 0) ∧ Good (K + 1) s2 ∧ s2.1.headed = true ∧ s2.1.records = s.1.records ∧ s2.1.end' = s.1.end' ∧ s2.1.n = s.1.n ∧ s2.1.first = s.1.first ∧ Oth s.1.first s.1.n s.2 s2.2 ∧ (s.2.left < 0 → s2.2.left = s.2.left)) ∨
      (0 ≤ s.2.left ∧ ∃ s', step2 s = (s', 9) ∧ s'.2.dead = true ∧ s'.2.row.length ≤ 4096 ∧ s'.1.n = s.1.n ∧ s'.1.first = s.1.first ∧ ∀ fates, Back (K + 256) s.1.first s.1.n s.2 (s'.2.restart fates) s.1.records s.1.records) := by
    unfold step2
    cases hh : s.1.headed with
    | true =>
      left
      refine ⟨s, by simp, ⟨h.dd, h.row, h.fine, fun j hj => (h.pg j hj).mono (by omega)⟩, hh, rfl, rfl, rfl, rfl, Oth.refl _ _ _, fun _ => rfl⟩
    | false =>
      have hraw : s.1.records = [] ∧ s.1.end' = 1 := by
        have hh' : isHead (leavesOf (seenPages s.2 s.1.first s.1.n)) = false := by
          have := congrArg LogM.headed h.fine.1
          rw [hh] at this; exact this.symm
        rw [h.fine.1]
        refine ⟨?_, ?_⟩
        · show (if isHead _ then _ else _) = _; rw [hh']; rfl
        · show (if isHead _ then _ else _) = _; rw [hh']; rfl
      rcases head_cases h (by omega) with ⟨d', q1, q2, q3, q4⟩ | ⟨q0, d', q1, q2, qr, q3⟩
      · left
        refine ⟨(reheaded s.1, d'), ?_, q2, rfl, hraw.1.symm, hraw.2.symm, rfl, rfl, q3, q4⟩
        simp only [Bool.false_eq_true, if_false, q1, beq_self_eq_true]
        rw [reheaded, ← hraw.1, ← hraw.2]
      · right
        refine ⟨q0, ({ s.1 with stamp := s.1.stamp + 1#64, headed := false }, d'), by simp only [Bool.false_eq_true, if_false, q1]; rfl, q2, qr, rfl, rfl, fun fates => ?_⟩
        have := q3 fates
        rw [hraw.1] at this ⊢
        exact this
  rcases h2 with ⟨s2, e2, g2, hh2, r2, d2, n2, f2, o2, l2⟩ | ⟨q0, s', e2, g2, qr2, n2, f2, b2⟩
  · rw [steps, e2]
    simp only [ne_eq, not_true_eq_false, if_false]
    rcases step3_cases g2 hh2 (by omega) b (by rw [n2, d2]; omega) with ⟨d', q1, q2, q3, q4⟩ | ⟨q0, d', q1, q2, qr3, q3⟩
    · left
      refine ⟨by omega, (recorded s2.1 b, d'), ?_, q2, ?_, ?_, n2, f2, ?_, fun hl => ?_⟩
      · rw [steps, q1]
        simp [steps, step4, recorded]
      · show s2.1.records ++ [b] = _; rw [r2]
      · show s2.1.end' + many b = _; rw [d2]
      · rw [n2, f2] at q3; exact o2.trans q3
      · exact (q4 (by rw [l2 hl]; exact hl)).trans (l2 hl)
    · right
      refine ⟨?_, ({ s2.1 with stamp := s2.1.stamp + 1#64, dead := true }, d'), ?_, rfl, q2, qr3, n2, f2, fun fates => ?_⟩
      · by_cases hl : s.2.left < 0
        · rw [l2 hl] at q0; omega
        · omega
      · rw [steps, q1]; simp
      · have := q3 fates
        rw [n2, f2, r2] at this
        exact ⟨this.good, this.left, o2.trans this.oth, this.recs⟩
  · right
    refine ⟨q0, ({ s'.1 with dead := true }, s'.2), ?_, rfl, g2, qr2, n2, f2, fun fates => ?_⟩
    · rw [steps, e2]; simp
    · have := b2 fates
      refine ⟨⟨this.good.dd, this.good.row, this.good.fine, fun j hj => (this.good.pg j hj).mono (by omega)⟩, this.left, this.oth, ?_⟩
      rcases this.recs with hx | hx <;> exact .inl hx
/-- What Reset may come to. -/
theorem reset_cases {K : Nat} {s : LogM × DiskM} (h : Good K s) (hK : K + 1 < 65536) :
    (∃ s', reset s = (s', 0) ∧ Good (K + 1) s' ∧ s'.1.records = [] ∧ s'.1.end' = 1 ∧ s'.1.n = s.1.n ∧ s'.1.first = s.1.first ∧ Oth s.1.first s.1.n s.2 s'.2 ∧ (s.2.left < 0 → s'.2.left = s.2.left)) ∨
    (0 ≤ s.2.left ∧ ∃ s', reset s = (s', 9) ∧ s'.1.dead = true ∧ s'.2.dead = true ∧ s'.2.row.length ≤ 4096 ∧ s'.1.n = s.1.n ∧ s'.1.first = s.1.first ∧ ∀ fates, Back (K + 256) s.1.first s.1.n s.2 (s'.2.restart fates) s.1.records []) := by
  unfold reset alive
  rw [h.ld, h.dd]
  simp only [Bool.or_self, Bool.false_eq_true, if_false]
  rcases head_cases h hK with ⟨d', q1, q2, q3, q4⟩ | ⟨q0, d', q1, q2, qr, q3⟩
  · left
    refine ⟨(reheaded s.1, d'), ?_, q2, rfl, rfl, rfl, rfl, q3, q4⟩
    rw [steps, q1]; simp [steps, reset2, reheaded]
  · right
    refine ⟨q0, ({ s.1 with stamp := s.1.stamp + 1#64, dead := true }, d'), ?_, rfl, q2, qr, rfl, rfl, q3⟩
    rw [steps, q1]; simp
/-- Another part of the disk. -/
theorem Good.oth {K f n : Nat} {s : LogM × DiskM} {d' : DiskM} (h : Good K s) (ho : Oth f n s.2 d') (hd : d'.dead = false) (hr : d'.row = []) (hw : d'.wf) (hap : s.1.first + s.1.n ≤ f ∨ f + n ≤ s.1.first) : Good K (s.1, d') := by
  have hs : ∀ j, j < s.1.n → d'.seen (s.1.first + j) = s.2.seen (s.1.first + j) := fun j hj => ho.2 _ (by omega)
  refine ⟨hd, hr, ⟨?_, by show _ ≤ d'.pages.length; rw [ho.1]; exact h.fine.2.1, h.fine.2.2.1, hw⟩, fun j hj => ?_⟩
  · show s.1 = ofPages s.1.first (seenPages d' s.1.first s.1.n)
    have : seenPages d' s.1.first s.1.n = seenPages s.2 s.1.first s.1.n := seenPages_ext (length_seenPages _ _ _) fun j hj => by rw [get_seenPages _ _ _ _ hj, hs j hj]
    rw [this]; exact h.fine.1
  · show PageOk K (d'.seen (s.1.first + j))
    rw [hs j hj]; exact h.pg j hj
end LogM
end Go.Proofs.YtfgggkheadfiaaaR
/- The tries of layer 8's laws: how they are read; a row of tags above a bound. -/
namespace Go.Proofs.YtfgggkheadfiaaaR
open Go Go.RowKit
attribute [local go_sem ↓] Go.wp_at_zero Go.wp_at_succ

structure Try8 where
  reset : Bool
  b : UInt8
  n : Int
  fuse : Int
namespace Try8
def cells (a : Try8) : List Value := [.bool a.reset, .int .u8 (a.b.toNat : Int), .int .u16 a.n, .int .u8 a.fuse]
def ok (a : Try8) : Prop := (0 ≤ a.n ∧ a.n ≤ 65535) ∧ 0 ≤ a.fuse ∧ a.fuse ≤ 255
def text (a : Try8) : List UInt8 := fillM a.b (a.n % 3000).toNat
theorem length_text (a : Try8) : a.text.length ≤ 2999 := by unfold text; rw [length_fillM]; omega
end Try8
/-- v reads as the tries l. -/
def Tries8 (w : World) (o : Own) (v : Value) (l : List Try8) : Prop :=
  ((∃ a c, v = .slice a 0 c) ∧ l = []) ∨ ∃ b off cap, v = .slice (some ⟨b, off, none⟩) l.length cap ∧ l.length ≤ cap ∧ cap ≤ maxLen ∧ (o b).1 = 0 ∧ b < w.heap.size ∧
    ∀ i (h : i < l.length), w.rangeAt b (off + i * 4) l[i].cells ∧ l[i].ok
theorem Tries8.step {T : Nat → Prop} {w w' : World} {o o' : Own} {v : Value} {l : List Try8} (h : Tries8 w o v l) (s : Step T w o w' o') (hT : ¬ T 0) : Tries8 w' o' v l := by
  rcases h with h | ⟨b, off, cap, hv, hl, hm, ho, hb, hr⟩
  · exact .inl h
  · exact .inr ⟨b, off, cap, hv, hl, hm, by rw [s.own b hb]; exact ho, Nat.lt_of_lt_of_le hb s.size, fun i hi => ⟨range_same (hr i hi).1 (s.block b hb (by rw [ho]; exact hT)), (hr i hi).2⟩⟩
theorem Tries8.form {w : World} {o : Own} {v : Value} {l : List Try8} (h : Tries8 w o v l) : ∃ a c, v = .slice a l.length c := by
  rcases h with ⟨⟨a, c, rfl⟩, rfl⟩ | ⟨b, off, cap, rfl, _⟩ <;> exact ⟨_, _, rfl⟩
theorem Tries8.at {w : World} {o : Own} {a : Option Addr} {n c : Nat} {l : List Try8} (h : Tries8 w o (.slice a n c) l) (i : Nat) (hi : i < l.length) :
    ∃ b off, a = some ⟨b, off, none⟩ ∧ (o b).1 = 0 ∧ b < w.heap.size ∧ l[i].ok ∧ w.cell? ⟨b, off + i * 4, none⟩ = some (.bool l[i].reset) ∧ w.cell? ⟨b, off + i * 4 + 1, none⟩ = some (.int .u8 (l[i].b.toNat : Int)) ∧
      w.cell? ⟨b, off + i * 4 + 2, none⟩ = some (.int .u16 l[i].n) ∧ w.cell? ⟨b, off + i * 4 + 3, none⟩ = some (.int .u8 l[i].fuse) := by
  rcases h with ⟨_, rfl⟩ | ⟨b, off, cap, hv, hl, hm, ho, hb, hr⟩
  · simp at hi
  · simp only [Value.slice.injEq] at hv
    obtain ⟨rfl, rfl, rfl⟩ := hv
    exact ⟨b, off, rfl, ho, hb, (hr i hi).2, (hr i hi).1 0 _ rfl, (hr i hi).1 1 _ rfl, (hr i hi).1 2 _ rfl, (hr i hi).1 3 _ rfl⟩
section
variable {H : Type} {enc : TypeId × Value → H} {W : World}
set_option maxRecDepth 100000 in
theorem read_tries8 {fuel : Nat} {v : Value} {x : DataW H × List MemPlace} (h : DataW.trod enc Try.prog W 0 (fun _ => true) true fuel 77 [v] = some x) :
    ∃ l : List Try8, Tries8 W (fun _ => (0, 0)) v l := by
  have c80 : Try.prog.cellsOf 80 = 4 := by kernel_rfl
  have c4 : Try.prog.cellsOf 4 = 1 := by kernel_rfl
  have c5 : Try.prog.cellsOf 5 = 1 := by kernel_rfl
  have c63 : Try.prog.cellsOf 63 = 1 := by kernel_rfl
  rcases read_slice Try.underlying77 (by omega) h with ⟨a, c, rfl⟩ | ⟨b, off, len, cap, rfl, h0, hlc, hcm, hb, hel⟩
  · exact ⟨[], .inl ⟨⟨a, c, rfl⟩, rfl⟩⟩
  · obtain ⟨l, hl, hr⟩ := list_choose (fun i (m : Try8) => W.rangeAt b (off + i * 4) m.cells ∧ m.ok) len (fun i hi => by
      obtain ⟨cs', k1, k2, n, y, k3⟩ := hel i (by omega)
      rw [c80] at k1 k2
      obtain ⟨xs, n', _, _, _, hxs, hf⟩ := DataW.trod_struct Try.underlying80 k3
      match cs', k1 with
      | [v0, v1, v2, v3], _ =>
        have f0 : DataW.trod enc Try.prog W 0 (fun _ => true) true n' 4 (([v0, v1, v2, v3].drop 0).take (Try.prog.cellsOf 4)) = xs[0]? := hf 0 _ rfl
        have f1 : DataW.trod enc Try.prog W 0 (fun _ => true) true n' 5 (([v0, v1, v2, v3].drop 1).take (Try.prog.cellsOf 5)) = xs[1]? := hf 1 _ rfl
        have f2 : DataW.trod enc Try.prog W 0 (fun _ => true) true n' 63 (([v0, v1, v2, v3].drop 2).take (Try.prog.cellsOf 63)) = xs[2]? := hf 2 _ rfl
        have f3 : DataW.trod enc Try.prog W 0 (fun _ => true) true n' 5 (([v0, v1, v2, v3].drop 3).take (Try.prog.cellsOf 5)) = xs[3]? := hf 3 _ rfl
        have hsz : xs.length = 4 := hxs
        simp only [c4, c5, c63, List.drop_zero, List.take_succ_cons, List.take_zero, List.drop_succ_cons] at f0 f1 f2 f3
        rw [List.getElem?_eq_getElem (by omega)] at f0 f1 f2 f3
        obtain ⟨a0, e0, _⟩ := DataW.trod_bool Try.underlying4 f0
        obtain ⟨a1, e1, _, w1⟩ := DataW.trod_int Try.underlying5 f1
        obtain ⟨a2, e2, _, w2⟩ := DataW.trod_int Try.underlying63 f2
        obtain ⟨a3, e3, _, w3⟩ := DataW.trod_int Try.underlying5 f3
        simp only [List.cons.injEq, and_true] at e0 e1 e2 e3
        have b1 := Go.bounds_u8 w1
        have hb1 : (((UInt8.ofNat a1.toNat).toNat : Nat) : Int) = a1 := by rw [UInt8.toNat_ofNat']; omega
        subst e0 e1 e2 e3
        exact ⟨⟨a0, UInt8.ofNat a1.toNat, a2, a3⟩, by unfold Try8.cells; simp only [hb1]; exact k2, Go.bounds_u16 w2, Go.bounds_u8 w3⟩)
    exact ⟨l, .inr ⟨b, off, cap, by rw [hl], by omega, hcm, rfl, hb, hr⟩⟩
end

/-- The tags above a bound: a call's own objects. -/
def Above (M : Nat) : Nat → Prop := fun k => M < k
section
variable {M : Nat} {w w1 : World} {o o1 : Own}
theorem Step.above2 {L D : Nat} (h : Step (In L D) w o w1 o1) (hL : M < L) (hD : M < D) : Step (Above M) w o w1 o1 := h.mono fun k hk => by rcases hk with hk | hk <;> (subst hk; assumption)
theorem Step.above1 {L : Nat} (h : Step (Only L) w o w1 o1) (hL : M < L) : Step (Above M) w o w1 o1 := h.mono fun k hk => by cases hk; exact hL
theorem Step.above0 (h : Step Nobody w o w1 o1) : Step (Above M) w o w1 o1 := h.mono fun _k hk => hk.elim
theorem Step.noneAbove (h : Step (Above M) w o w1 o1) (hM : ∀ k, k < w.heap.size → (o k).1 ≤ M) : Step Nobody w o w1 o1 :=
  ⟨h.os, h.tape, h.output, h.size, h.own, fun k hk _ => h.block k hk (fun hx => by have := hM k hk; change M < _ at hx; omega)⟩
end
theorem equal_is {w : World} {o : Own} {v1 v2 : Value} {l1 l2 : List (List UInt8)} (h1 : Slc w o v1 l1.length (tvs l1)) (h2 : Slc w o v2 l2.length (tvs l2)) (hmany : l1.length ≤ 1000000) (r : Bool) (hr : (l1 == l2) = r) :
    Calls Try.prog 49 #[v1, v2] w (Ret Nobody w o fun v _ _ => v = .bool r) := by
  have := equal_any h1 h2 hmany; rw [hr] at this; exact this
/-- texts(x.Batches()): the first call, as the second one takes it. -/
theorem batches_texts {w : World} {o : Own} {L p pd : Nat} {m : LogM} (h : LogAt w o L p pd m) :
    Calls Try.prog 51 #[.pointer (some ⟨p, 0, none⟩)] w (Ret Nobody w o fun v w' o' => Calls Try.prog 50 #[v] w' (Ret Nobody w' o' fun v' w2 o2 => Slc w2 o2 v' m.records.length (tvs m.records))) := by
  obtain ⟨g1, g2, g3, g4, g5, g6, g7⟩ := h.wf
  refine (batches_is h _ rfl).mono ?_
  rintro e w' ⟨v, o', rfl, hs, vs, hown, hn, hb, hz⟩
  have hl : vs.length = m.records.length := hb.1
  refine ⟨v, o', rfl, hs, ?_⟩
  rw [← hl] at hown
  exact texts_any (own_slc hown fun k hk => by rw [hz k (hown.lt k hk).1]) hb (by omega)
end Go.Proofs.YtfgggkheadfiaaaR
/- The statement LogParts: two logs of one disk; the walk. -/
namespace Go.Proofs.YtfgggkheadfiaaaR
open Go Go.RowKit
attribute [local go_sem ↓] Go.wp_at_zero Go.wp_at_succ

namespace LogM
theorem ofPages_blank' (f k : Nat) : ofPages f (List.replicate k DiskM.blank) = raw f k 0 := by
  unfold ofPages raw
  rw [leaves_blank, newest_blank, List.length_replicate]; rfl
theorem pageOk_blank : PageOk 0 DiskM.blank := ⟨by decide +kernel, by decide +kernel, by decide +kernel, by decide +kernel⟩
theorem seen_new_at (k f n : Nat) (h : f + n ≤ k) : seenPages (DiskM.new k) f n = List.replicate n DiskM.blank := by
  refine seenPages_ext (by simp) fun j hj => ?_
  rw [List.getElem?_replicate, if_pos hj]
  simp [DiskM.seen, DiskM.seenIn, DiskM.new, show f + j < k by omega]
theorem wf_new {k : Nat} (h1 : 1 ≤ k) (h2 : k ≤ 4096) : (DiskM.new k).wf := by
  refine ⟨by simpa [DiskM.new] using h1, by simpa [DiskM.new] using h2, fun p hp => ?_, by simp [DiskM.new], by simp [DiskM.new], by simp [DiskM.new]⟩
  rw [List.eq_of_mem_replicate hp]; exact length_blank
theorem good_new {k f n : Nat} (h : f + n ≤ k) (hn : 2 ≤ n) (hk : k ≤ 4096) : Good 0 (raw f n 0, DiskM.new k) := by
  refine ⟨rfl, rfl, ⟨?_, by show f + n ≤ (DiskM.new k).pages.length; simpa [DiskM.new] using h, hn, wf_new (by omega) hk⟩, fun j hj => ?_⟩
  · show raw f n 0 = ofPages f (seenPages (DiskM.new k) f n)
    rw [seen_new_at k f n h, ofPages_blank']
  · have hj' : j < n := hj
    have : (DiskM.new k).seen (f + j) = DiskM.blank := by simp [DiskM.seen, DiskM.seenIn, DiskM.new, show f + j < k by omega]
    show PageOk 0 ((DiskM.new k).seen (f + j))
    rw [this]; exact pageOk_blank
theorem Good.mono {K K' : Nat} {s : LogM × DiskM} (h : Good K s) (hK : K ≤ K') : Good K' s := ⟨h.dd, h.row, h.fine, fun j hj => (h.pg j hj).mono hK⟩
/-- While the power stays: Commit. -/
theorem Good.commit {K : Nat} {s : LogM × DiskM} (h : Good K s) (hl : s.2.left < 0) (hK : K + 2 < 65536) (b : List UInt8) :
    ∃ s' e, LogM.commit b s = (s', e) ∧ Good (K + 2) s' ∧ s'.2.left < 0 ∧ s'.1.n = s.1.n ∧ s'.1.first = s.1.first ∧ Oth s.1.first s.1.n s.2 s'.2 ∧
      ((many b ≤ s.1.n - s.1.end' ∧ e = 0 ∧ s'.1.records = s.1.records ++ [b] ∧ s'.1.end' = s.1.end' + many b) ∨ (s.1.n - s.1.end' < many b ∧ e = 4 ∧ s'.1.records = s.1.records ∧ s'.1.end' = s.1.end')) := by
  rcases commit_cases h hK b with ⟨h1, h2⟩ | ⟨h1, s', h2, h3, h4, h5, h6, h7, h8, h9⟩ | ⟨h1, _⟩
  · exact ⟨s, 4, h2, h.mono (by omega), hl, rfl, rfl, Oth.refl _ _ _, .inr ⟨h1, rfl, rfl, rfl⟩⟩
  · exact ⟨s', 0, h2, h3, by rw [h9 hl]; exact hl, h6, h7, h8, .inl ⟨h1, rfl, h4, h5⟩⟩
  · omega
theorem Good.reset {K : Nat} {s : LogM × DiskM} (h : Good K s) (hl : s.2.left < 0) (hK : K + 1 < 65536) :
    ∃ s', LogM.reset s = (s', 0) ∧ Good (K + 1) s' ∧ s'.2.left < 0 ∧ s'.1.n = s.1.n ∧ s'.1.first = s.1.first ∧ Oth s.1.first s.1.n s.2 s'.2 ∧ s'.1.records = [] ∧ s'.1.end' = 1 := by
  rcases reset_cases h hK with ⟨s', h2, h3, h4, h5, h6, h7, h8, h9⟩ | ⟨h1, _⟩
  · exact ⟨s', h2, h3, by rw [h9 hl]; exact hl, h6, h7, h8, h4, h5⟩
  · omega
theorem Good.room_eq {K : Nat} {s : LogM × DiskM} (_h : Good K s) {n e : Nat} (hn : s.1.n = n) (he : s.1.end' = e) : s.1.room = 480 * (n - e) := by unfold room; rw [hn, he]

/-- Two logs a, b of the disk d, and s, a log of its own, that does as a does. -/
structure Two8 (K : Nat) (a b : LogM) (d : DiskM) (s : LogM × DiskM) : Prop where
  ga : Good K (a, d)
  gb : Good K (b, d)
  gs : Good K s
  ld : d.left < 0
  ls : s.2.left < 0
  fa : a.first = 0 ∧ a.n = 8
  fb : b.first = 8 ∧ b.n = 8
  fs : s.1.n = 8
  re : s.1.records = a.records ∧ s.1.end' = a.end'
theorem two8_new : Two8 0 (raw 0 8 0) (raw 8 8 0) (DiskM.new 16) (raw 0 8 0, DiskM.new 8) :=
  ⟨good_new (by omega) (by omega) (by omega), good_new (by omega) (by omega) (by omega), good_new (by omega) (by omega) (by omega), by decide, by decide, ⟨rfl, rfl⟩, ⟨rfl, rfl⟩, rfl, rfl, rfl⟩
theorem Two8.commitB {K : Nat} {a b : LogM} {d : DiskM} {s : LogM × DiskM} (h : Two8 K a b d s) (hK : K + 2 < 65536) (t : List UInt8) :
    ∃ b' d' e, LogM.commit t (b, d) = ((b', d'), e) ∧ Two8 (K + 2) a b' d' s := by
  obtain ⟨⟨b', d'⟩, e, h1, h2, h3, h4, h5, h6, -⟩ := h.gb.commit h.ld hK t
  simp only [h.fb.1, h.fb.2] at h4 h5 h6
  exact ⟨b', d', e, h1, (h.ga.oth h6 h2.dd h2.row h2.fine.2.2.2 (by simp only [h.fa.1, h.fa.2]; omega)).mono (by omega), h2, h.gs.mono (by omega), h3, h.ls, h.fa, ⟨h5, h4⟩, h.fs, h.re⟩
theorem Two8.resetB {K : Nat} {a b : LogM} {d : DiskM} {s : LogM × DiskM} (h : Two8 K a b d s) (hK : K + 1 < 65536) :
    ∃ b' d', LogM.reset (b, d) = ((b', d'), 0) ∧ Two8 (K + 1) a b' d' s := by
  obtain ⟨⟨b', d'⟩, h1, h2, h3, h4, h5, h6, -⟩ := h.gb.reset h.ld hK
  simp only [h.fb.1, h.fb.2] at h4 h5 h6
  exact ⟨b', d', h1, (h.ga.oth h6 h2.dd h2.row h2.fine.2.2.2 (by simp only [h.fa.1, h.fa.2]; omega)).mono (by omega), h2, h.gs.mono (by omega), h3, h.ls, h.fa, ⟨h5, h4⟩, h.fs, h.re⟩
theorem Two8.commitA {K : Nat} {a b : LogM} {d : DiskM} {s : LogM × DiskM} (h : Two8 K a b d s) (hK : K + 2 < 65536) (t : List UInt8) :
    ∃ a' d' s' e, LogM.commit t (a, d) = ((a', d'), e) ∧ LogM.commit t s = (s', e) ∧ Two8 (K + 2) a' b d' s' := by
  obtain ⟨⟨a', d'⟩, e, h1, h2, h3, h4, h5, h6, h7⟩ := h.ga.commit h.ld hK t
  obtain ⟨s', e2, k1, k2, k3, k4, -, -, k7⟩ := h.gs.commit h.ls hK t
  simp only [h.fa.1, h.fa.2] at h4 h5 h6 h7
  rw [h.fs, h.re.1, h.re.2] at k7
  rw [h.fs] at k4
  have he : e2 = e ∧ s'.1.records = a'.records ∧ s'.1.end' = a'.end' := by
    rcases h7 with ⟨p1, p2, p3, p4⟩ | ⟨p1, p2, p3, p4⟩ <;> rcases k7 with ⟨q1, q2, q3, q4⟩ | ⟨q1, q2, q3, q4⟩
    · exact ⟨q2.trans p2.symm, q3.trans p3.symm, q4.trans p4.symm⟩
    · omega
    · omega
    · exact ⟨q2.trans p2.symm, q3.trans p3.symm, q4.trans p4.symm⟩
  rw [he.1] at k1
  exact ⟨a', d', s', e, h1, k1, h2, (h.gb.oth h6 h2.dd h2.row h2.fine.2.2.2 (by simp only [h.fb.1, h.fb.2]; omega)).mono (by omega), k2, h3, k3, ⟨h5, h4⟩, h.fb, k4, he.2⟩
theorem Two8.resetA {K : Nat} {a b : LogM} {d : DiskM} {s : LogM × DiskM} (h : Two8 K a b d s) (hK : K + 1 < 65536) :
    ∃ a' d' s', LogM.reset (a, d) = ((a', d'), 0) ∧ LogM.reset s = (s', 0) ∧ Two8 (K + 1) a' b d' s' := by
  obtain ⟨⟨a', d'⟩, h1, h2, h3, h4, h5, h6, h7, h8⟩ := h.ga.reset h.ld hK
  obtain ⟨s', k1, k2, k3, k4, -, -, k7, k8⟩ := h.gs.reset h.ls hK
  simp only [h.fa.1, h.fa.2] at h4 h5 h6 h7 h8
  rw [h.fs] at k4
  exact ⟨a', d', s', h1, k1, h2, (h.gb.oth h6 h2.dd h2.row h2.fine.2.2.2 (by simp only [h.fb.1, h.fb.2]; omega)).mono (by omega), k2, h3, k3, ⟨h5, h4⟩, h.fb, k4, k7.trans h7.symm, k8.trans h8.symm⟩
theorem Two8.mono {K K' : Nat} {a b : LogM} {d : DiskM} {s : LogM × DiskM} (h : Two8 K a b d s) (hK : K ≤ K') : Two8 K' a b d s := ⟨h.ga.mono hK, h.gb.mono hK, h.gs.mono hK, h.ld, h.ls, h.fa, h.fb, h.fs, h.re⟩
theorem Two8.rooms {K : Nat} {a b : LogM} {d : DiskM} {s : LogM × DiskM} (h : Two8 K a b d s) : s.1.room = a.room := by unfold room; rw [h.fs, h.fa.2, h.re.2]
theorem Two8.again {K : Nat} {a b : LogM} {d : DiskM} {s : LogM × DiskM} (h : Two8 K a b d s) (hK : K < 65536) : newest (seenPages d 0 8) ≠ BitVec.allOnes 64 ∧ ofPages 0 (seenPages d 0 8) = a := by
  have hf := h.ga.fine.1
  have hn := h.ga.newest
  have hs := h.ga.stamp_le
  simp only [h.fa.1, h.fa.2] at hf hn hs
  refine ⟨?_, hf.symm⟩
  rw [hn]; intro he; rw [he] at hs; simp at hs; omega
end LogM

set_option maxRecDepth 100000 in
set_option maxHeartbeats 6400000 in
theorem logParts_walk {w : World} {o : Own} (which : Int) (_hw0 : 0 ≤ which) (_hw1 : which ≤ 4294967295) {v : Value} {l : List Try8} (hl : Tries8 w o v l) :
    Calls Try.prog 10 #[v, .int .u32 which] w (Ret Nobody w o fun v _ _ => v = .bool true) := by
  obtain ⟨M, -, hM⟩ := tag_bound o 0 w.heap.size
  obtain ⟨D, hD⟩ : ∃ D, D = M + 1 := ⟨_, rfl⟩
  obtain ⟨A, hA⟩ : ∃ A, A = M + 2 := ⟨_, rfl⟩
  obtain ⟨B, hB⟩ : ∃ B, B = M + 3 := ⟨_, rfl⟩
  obtain ⟨C, hC⟩ : ∃ C, C = M + 4 := ⟨_, rfl⟩
  obtain ⟨E, hE⟩ : ∃ E, E = M + 5 := ⟨_, rfl⟩
  have hD0 : D ≠ 0 := by omega
  have hA0 : A ≠ 0 := by omega
  have hB0 : B ≠ 0 := by omega
  have hC0 : C ≠ 0 := by omega
  have hE0 : E ≠ 0 := by omega
  have hAD : A ≠ D := by omega
  have hBD : B ≠ D := by omega
  have hEC : C ≠ E := by omega
  have mA : M < A := by omega
  have mB : M < B := by omega
  have mC : M < C := by omega
  have mD : M < D := by omega
  have mE : M < E := by omega
  have hT0 : ¬ Above M 0 := fun h => by change M < 0 at h; omega
  have nBA : ¬ In B D A := fun h => by rcases h with h | h <;> omega
  have nBC : ¬ In B D C := fun h => by rcases h with h | h <;> omega
  have nBE : ¬ In B D E := fun h => by rcases h with h | h <;> omega
  have nB0 : ¬ In B D 0 := fun h => by rcases h with h | h <;> omega
  have nAB : ¬ In A D B := fun h => by rcases h with h | h <;> omega
  have nAC : ¬ In A D C := fun h => by rcases h with h | h <;> omega
  have nAE : ¬ In A D E := fun h => by rcases h with h | h <;> omega
  have nA0 : ¬ In A D 0 := fun h => by rcases h with h | h <;> omega
  have nCA : ¬ In C E A := fun h => by rcases h with h | h <;> omega
  have nCB : ¬ In C E B := fun h => by rcases h with h | h <;> omega
  have nCD : ¬ In C E D := fun h => by rcases h with h | h <;> omega
  have nC0 : ¬ In C E 0 := fun h => by rcases h with h | h <;> omega
  have oBA : ¬ Only B A := fun h => by change _ = _ at h; omega
  have oBD : ¬ Only B D := fun h => by change _ = _ at h; omega
  have oB0 : ¬ Only B 0 := fun h => by change _ = _ at h; omega
  have oCA : ¬ Only C A := fun h => by change _ = _ at h; omega
  have oCB : ¬ Only C B := fun h => by change _ = _ at h; omega
  have oCD : ¬ Only C D := fun h => by change _ = _ at h; omega
  have oC0 : ¬ Only C 0 := fun h => by change _ = _ at h; omega
  have oAD : ¬ Only A D := fun h => by change _ = _ at h; omega
  have oBC : ¬ Only B C := fun h => by change _ = _ at h; omega
  have oBE : ¬ Only B E := fun h => by change _ = _ at h; omega
  clear hD hA hB hC hE
  have nn : ∀ k, ¬ Nobody k := fun _ h => h
  obtain ⟨a, c, rfl⟩ := hl.form
  by_cases hmany : 30 < l.length
  · have hmi : (30 : Int) < (l.length : Int) := by omega
    have hwk := wakes8_any w o
    clear hl
    generalize l.length = ll at *
    go_enter Try.func10, Try.ntmps10
    go_wp2_with fail
    refine hwk.mono ?_; rintro e wc ⟨v, oc, rfl, hs, rfl⟩
    go_wp2_with fail
    go_ret
    exact ⟨_, oc, rfl, hs, rfl⟩
  have hmi : ¬ (30 : Int) < (l.length : Int) := by omega
  obtain ⟨ll, hll⟩ : ∃ ll, l.length = ll := ⟨_, rfl⟩
  rw [hll] at hl hmi ⊢
  have hlH := hidden hl
  have hllH := hidden hll
  have hll30 : (ll : Int) ≤ 30 := by omega
  have hnew := new_ok 16 w o D (by omega) (by omega)
  clear hl hll hmany
  go_enter Try.func10, Try.ntmps10
  go_wp2_with fail
  refine hnew.mono ?_; rintro e wc ⟨v, oc, rfl, hs, pd, -, rfl, hd⟩
  have hst := hs.above0 (M := M)
  have hx := open_yes hA0 hD0 hAD hd (by simp [DiskM.new]) rfl 0 8 (by omega) (by omega) (by simp [DiskM.new])
  rw [LogM.seen_new_at 16 0 8 (by omega)] at hx
  clear hs hnew
  go_wp2_with fail
  refine hx.mono ?_; rintro e wc' ⟨v, oc', rfl, hs, hop⟩
  obtain ⟨pa, -, rfl, hla⟩ := hop.2 (by rw [newest_blank]; decide)
  rw [LogM.ofPages_blank'] at hla
  have hst := hst.trans (hs.above1 mA)
  have hd := hd.step hs oAD
  have hx := open_yes hB0 hD0 hBD hd (by simp [DiskM.new]) rfl 8 8 (by omega) (by omega) (by simp [DiskM.new])
  rw [LogM.seen_new_at 16 8 8 (by omega)] at hx
  clear hs hop
  go_wp2_with fail
  refine hx.mono ?_; rintro e wc ⟨v, oc, rfl, hs, hop⟩
  obtain ⟨pb, -, rfl, hlb⟩ := hop.2 (by rw [newest_blank]; decide)
  rw [LogM.ofPages_blank'] at hlb
  have hst := hst.trans (hs.above1 mB)
  have hd := hd.step hs oBD
  have hla := hla.step hs oBA oB0
  have hx := made_is (w := wc) (o := oc) hC0 hE0 hEC 8 (by omega) (by omega)
  clear hs hop
  go_wp2_with fail
  refine hx.mono ?_; rintro e wc' ⟨v, oc', rfl, hs, pe, pc, -, -, rfl, hlc⟩
  have hst := hst.trans (hs.above1 mC)
  have hd := hd.step hs oCD
  have hla := hla.step hs oCA oC0
  have hlb := hlb.step hs oCB oC0
  clear hs hx
  go_wp2_with fail
  go_loopw [13] (fun i wr => ∃ (j : Nat) (oj : Own) (ma mb : LogM) (d : DiskM) (s : LogM × DiskM), j ≤ ll ∧ i = .int .i64 j ∧ LD wr oj A D pa pd (ma, d) ∧ LogAt wr oj B pb pd mb ∧ LD wr oj C E pc pe s ∧ Step (Above M) w o wr oj ∧ LogM.Two8 (3 * j) ma mb d s)
    (fun i _ => ll - (intOf i).toNat)
  case atStart => exact ⟨0, oc', _, _, _, _, Nat.zero_le _, rfl, ⟨hla, hd⟩, hlb, hlc, hst, LogM.two8_new⟩
  case round =>
    clear hla hlb hlc hd hst
    obtain ⟨j, oj, ma, mb, d, s, hj, rfl, hla, hlb, hlc, hst, hI'⟩ := hrel
    have hI := hidden (show LogM.Two8 (3 * j) ma mb d s from hI')
    clear hI'
    have hrd : d.row.length ≤ 700000 := by have := hI.out.ga.row; simp only at this; rw [this]; simp
    have hrs : s.2.row.length ≤ 700000 := by rw [hI.out.gs.row]; simp
    have hrdH := hidden hrd
    have hrsH := hidden hrs
    clear hrd hrs
    by_cases hlt : j < ll
    · obtain ⟨bq, off, haE, hbo, hbl, hok, c0, c1, c2, c3⟩ := (hlH.out.step hst hT0).at j (by rw [hllH.out]; exact hlt)
      subst haE
      obtain ⟨t, ht⟩ : ∃ t : Try8, l[j]'(by rw [hllH.out]; exact hlt) = t := ⟨_, rfl⟩
      rw [ht] at hok c0 c1 c2 c3
      obtain ⟨rs, tb, tn, tf⟩ := t
      simp only at c0 c1 c2 c3
      obtain ⟨⟨hn0, hn1⟩, -⟩ := hok
      simp only at hn0 hn1
      clear ht c3
      have hby := fun (W : World) (O : Own) => bytes8_any (.int .u8 0) tb tn ⟨hn0, hn1⟩ (.int .i64 0) W O
      have hbyH := hidden hby
      clear hby
      go_wp2_with fail
      refine wp_region_need (fun w' => w'.cell? ⟨bq, off + j * 4, none⟩ = some (.bool rs) ∧ w'.cell? ⟨bq, off + j * 4 + 1, none⟩ = some (.int .u8 (tb.toNat : Int)) ∧ w'.cell? ⟨bq, off + j * 4 + 2, none⟩ = some (.int .u16 tn)) (fun _ => true) (by kernel_rfl) ⟨c0, c1, c2⟩ (fun hHeld => ?_)
      refine wpAnyN_take (i := 0) (v := ?_) rfl (by kernel_rfl) (by kernel_rfl) (by kernel_rfl) (by kernel_rfl) (fun _ _ _ h => h) (Or.inl ⟨by rfl, ?_⟩) (by assumption) ?_
      rotate_left
      · intro w hSw; ((try dsimp only at hSw); go_simp; (try with_reducible rfl))
      simp only [Act.put, List.setIfInBounds_toArray, List.set_cons_zero, List.set_cons_succ]
      refine wpAnyN_take (i := 1) (v := ?_) rfl (by kernel_rfl) (by kernel_rfl) (by kernel_rfl) (by kernel_rfl) (fun _ _ _ h => h) (Or.inl ⟨by rfl, ?_⟩) (by assumption) ?_
      rotate_left
      · intro w hSw; ((try dsimp only at hSw); go_simp; (try with_reducible rfl))
      simp only [Act.put, List.setIfInBounds_toArray, List.set_cons_zero, List.set_cons_succ]
      refine wpAnyN_take (i := 2) (v := ?_) rfl (by kernel_rfl) (by kernel_rfl) (by kernel_rfl) (by kernel_rfl) (fun _ _ _ h => h) (Or.inl ⟨by rfl, ?_⟩) (by assumption) ?_
      rotate_left
      · intro w hSw; ((try dsimp only at hSw); go_simp; (try with_reducible rfl))
      simp only [Act.put, List.setIfInBounds_toArray, List.set_cons_zero, List.set_cons_succ]
      refine wpAnyN_take (i := 3) (v := ?_) rfl (by kernel_rfl) (by kernel_rfl) (by kernel_rfl) (by kernel_rfl) (fun _ _ _ h => h) (Or.inl ⟨by rfl, ?_⟩) (by assumption) ?_
      rotate_left
      · intro w hSw; ((try dsimp only at hSw); go_simp; (try with_reducible rfl))
      simp only [Act.put, List.setIfInBounds_toArray, List.set_cons_zero, List.set_cons_succ]
      refine wpAnyN_take (i := 4) (v := ?_) rfl (by kernel_rfl) (by kernel_rfl) (by kernel_rfl) (by kernel_rfl) (fun _ _ _ h => h) (Or.inl ⟨by rfl, ?_⟩) (by assumption) ?_
      rotate_left
      · intro w hSw; ((try dsimp only at hSw); go_simp; (try with_reducible rfl))
      simp only [Act.put, List.setIfInBounds_toArray, List.set_cons_zero, List.set_cons_succ]
      refine wpAnyN_take (i := 5) (v := ?_) rfl (by kernel_rfl) (by kernel_rfl) (by kernel_rfl) (by kernel_rfl) (fun _ _ _ h => h) (Or.inl ⟨by rfl, ?_⟩) (by assumption) ?_
      rotate_left
      · intro w hSw; ((try dsimp only at hSw); go_simp; (try with_reducible rfl))
      simp only [Act.put, List.setIfInBounds_toArray, List.set_cons_zero, List.set_cons_succ]
      refine wpAnyN_take (i := 6) (v := ?_) rfl (by kernel_rfl) (by kernel_rfl) (by kernel_rfl) (by kernel_rfl) (fun _ _ _ h => h) (Or.inl ⟨by rfl, ?_⟩) (by assumption) ?_
      rotate_left
      · intro w hSw; ((try dsimp only at hSw); go_simp; (try with_reducible rfl))
      simp only [Act.put, List.setIfInBounds_toArray, List.set_cons_zero, List.set_cons_succ]
      refine wpAnyN_take (i := 7) (v := ?_) rfl (by kernel_rfl) (by kernel_rfl) (by kernel_rfl) (by kernel_rfl) (fun _ _ _ h => h) (Or.inl ⟨by rfl, ?_⟩) (by assumption) ?_
      rotate_left
      · intro w hSw; ((try dsimp only at hSw); go_simp; (try with_reducible rfl))
      simp only [Act.put, List.setIfInBounds_toArray, List.set_cons_zero, List.set_cons_succ]
      refine wpAnyN_take (i := 8) (v := ?_) rfl (by kernel_rfl) (by kernel_rfl) (by kernel_rfl) (by kernel_rfl) (fun _ _ _ h => h) (Or.inl ⟨by rfl, ?_⟩) (by assumption) ?_
      rotate_left
      · intro w hSw; ((try dsimp only at hSw); go_simp; (try with_reducible rfl))
      simp only [Act.put, List.setIfInBounds_toArray, List.set_cons_zero, List.set_cons_succ]
      refine wpAnyN_take (i := 9) (v := ?_) rfl (by kernel_rfl) (by kernel_rfl) (by kernel_rfl) (by kernel_rfl) (fun _ _ _ h => h) (Or.inl ⟨by rfl, ?_⟩) (by assumption) ?_
      rotate_left
      · intro w hSw; ((try dsimp only at hSw); go_simp; (try with_reducible rfl))
      simp only [Act.put, List.setIfInBounds_toArray, List.set_cons_zero, List.set_cons_succ]
      refine wpAnyN_take (i := 10) (v := ?_) rfl (by kernel_rfl) (by kernel_rfl) (by kernel_rfl) (by kernel_rfl) (fun _ _ _ h => h) (Or.inl ⟨by rfl, ?_⟩) (by assumption) ?_
      rotate_left
      · intro w hSw; ((try dsimp only at hSw); go_simp; (try with_reducible rfl))
      simp only [Act.put, List.setIfInBounds_toArray, List.set_cons_zero, List.set_cons_succ]
      refine wpAnyN_one (i := 11) rfl (by kernel_rfl) ?_
      go_wp2_with fail
      refine (hbyH.out wr.drew oj).mono ?_; rintro e w1 ⟨v1, o1, rfl, hs0, g, rfl, hb⟩
      have hs1 : Step Nobody wr oj w1 o1 := (Step.refl Nobody wr oj).drew.trans hs0
      clear hs0
      have eb := hs1.block bq hbl (nn _)
      have hS1 : w1.cell? ⟨bq, off + j * 4, none⟩ = some (.bool rs) ∧ w1.cell? ⟨bq, off + j * 4 + 1, none⟩ = some (.int .u8 (tb.toNat : Int)) ∧ w1.cell? ⟨bq, off + j * 4 + 2, none⟩ = some (.int .u16 tn) :=
        ⟨by rw [World.cell?_of_block (a := ⟨bq, off + j * 4, none⟩) eb]; exact c0, by rw [World.cell?_of_block (a := ⟨bq, off + j * 4 + 1, none⟩) eb]; exact c1, by rw [World.cell?_of_block (a := ⟨bq, off + j * 4 + 2, none⟩) eb]; exact c2⟩
      have d0 := hS1.1
      obtain ⟨q, hq⟩ : ∃ q, (tn % 3000).toNat = q := ⟨_, rfl⟩
      have hq3 : q ≤ 2999 := by omega
      rw [hq] at hb ⊢
      obtain ⟨tx, htx⟩ : ∃ tx, fillM tb q = tx := ⟨_, rfl⟩
      have htl : tx.length = q := by rw [← htx, length_fillM]
      rw [htx] at hb
      have hcap : capLe (.slice (some ⟨g, 0, none⟩) q q) := fun a n c h => by cases h; omega
      have hla := hla.step hs1 (nn _) (nn _) (nn _)
      have hlb := hlb.step hs1 (nn _) (nn _)
      have hlc := hlc.step hs1 (nn _) (nn _) (nn _)
      have hst := hst.trans hs1.above0
      have hbH := hidden hb
      have hblH := Nat.lt_of_lt_of_le hbl hs1.size
      have hboH : (o1 bq).1 = 0 := by rw [hs1.own bq hbl]; exact hbo
      clear c0 c1 c2 hq htx hb hs1 eb hbl hbo hHeld
      go_wp2_with fail
      refine ⟨fun _ => hS1, ?_⟩
      refine wpAnyN_one (i := 12) rfl (by kernel_rfl) ?_
      go_wp2_with fail
      refine ⟨fun _ => hS1, ?_⟩
      clear hS1
      refine wpAnyN_done (by kernel_rfl) ?_ _
      go_wp2_with fail
      · obtain ⟨mb', d', e1, hc, hI2⟩ := hI.out.commitB (by omega) tx
        have hcm := commit_is hB0 hD0 hBD (⟨hlb, hla.2⟩ : LD w1 o1 B D pb pd (mb, d)) hrdH.out tx _ hbH.out hcap (by omega) hc
        have hI3 := hidden hI2
        clear hI2 hc
        refine hcm.mono ?_; rintro e w2 ⟨v2, o2, rfl, hs, rfl, hld⟩
        have eb := hs.block bq hblH (by rw [hboH]; exact nB0)
        have d1 : w2.cell? ⟨bq, off + j * 4, none⟩ = some (.bool rs) := by rw [World.cell?_of_block (a := ⟨bq, off + j * 4, none⟩) eb]; exact d0
        have hlA := hla.1.step hs nBA nB0
        have hlb := hld.1
        have hdd := hld.2
        have hlc := hlc.step hs nBC nBE nB0
        have hst := hst.trans (hs.above2 mB mD)
        clear eb hs hld hcm d0 hla
        cases rs with
        | false =>
          go_wp2_with fail
          go_roundw
          case rel => exact ⟨j + 1, o2, ma, mb', d', s, by omega, by go_num, ⟨hlA, hdd⟩, hlb, hlc, hst, hI3.out.mono (by omega)⟩
          case measure => simp [intOf]; omega
        | true =>
          obtain ⟨mb2, d2, hc, hI2⟩ := hI3.out.resetB (by omega)
          have hrd2 : d'.row.length ≤ 700000 := by have := hI3.out.ga.row; simp only at this; rw [this]; simp
          have hcm := reset_is hB0 hD0 hBD (⟨hlb, hdd⟩ : LD w2 o2 B D pb pd (mb', d')) hrd2 hc
          have hI4 := hidden hI2
          clear hI2 hc hrd2
          go_wp2_with fail
          refine hcm.mono ?_; rintro e w3 ⟨v3, o3, rfl, hs, rfl, hld⟩
          have hlA := hlA.step hs nBA nB0
          have hlc := hlc.step hs nBC nBE nB0
          have hst := hst.trans (hs.above2 mB mD)
          clear hs hcm
          go_wp2_with fail
          go_roundw
          case rel => exact ⟨j + 1, o3, ma, mb2, d2, s, by omega, by go_num, ⟨hlA, hld.2⟩, hld.1, hlc, hst, hI4.out.mono (by omega)⟩
          case measure => simp [intOf]; omega
      · obtain ⟨ma', d', s', hca, hcs, hI2⟩ := hI.out.resetA (by omega)
        refine (reset_is hA0 hD0 hAD hla hrdH.out hca).mono ?_; rintro e w2 ⟨v2, o2, rfl, hs, rfl, hla⟩
        have hlb := hlb.step hs nAB nA0
        have hlc := hlc.step hs nAC nAE nA0
        have hst := hst.trans (hs.above2 mA mD)
        have hcm := reset_is hC0 hE0 hEC hlc hrsH.out hcs
        clear hca hcs hs hlc
        go_wp2_with fail
        refine hcm.mono ?_; rintro e w3 ⟨v3, o3, rfl, hs, rfl, hlc⟩
        have hla := hla.step hs nCA nCD nC0
        have hlb := hlb.step hs nCB nC0
        have hst := hst.trans (hs.above2 mC mE)
        clear hs hcm
        have hI3 := hidden hI2
        have hrm := hidden (LogM.Two8.rooms hI2)
        clear hI2
        go_wp2_with fail
        refine (room_is hla.1 _ rfl).mono ?_; rintro e w4 ⟨v4, o4, rfl, hs, rfl⟩
        have hla := hla.step hs (nn _) (nn _) (nn _); have hlb := hlb.step hs (nn _) (nn _); have hlc := hlc.step hs (nn _) (nn _) (nn _); have hst := hst.trans hs.above0
        clear hs
        go_wp2_with fail
        refine (room_is hlc.1 _ hrm.out).mono ?_; rintro e w4' ⟨v4, o4', rfl, hs, rfl⟩
        have hla := hla.step hs (nn _) (nn _) (nn _); have hlb := hlb.step hs (nn _) (nn _); have hlc := hlc.step hs (nn _) (nn _) (nn _); have hst := hst.trans hs.above0
        clear hs
        go_wp2_with fail
        refine (batches_texts hla.1).mono ?_; rintro e w4 ⟨v4, o4, rfl, hs, hcl⟩
        have hla := hla.step hs (nn _) (nn _) (nn _); have hlb := hlb.step hs (nn _) (nn _); have hlc := hlc.step hs (nn _) (nn _) (nn _); have hst := hst.trans hs.above0
        clear hs
        go_wp2_with fail
        refine hcl.mono ?_; rintro e w5 ⟨v5, o5, rfl, hs, hs1⟩
        have hla := hla.step hs (nn _) (nn _) (nn _); have hlb := hlb.step hs (nn _) (nn _); have hlc := hlc.step hs (nn _) (nn _) (nn _); have hst := hst.trans hs.above0
        clear hs hcl
        go_wp2_with fail
        refine (batches_texts hlc.1).mono ?_; rintro e w6 ⟨v6, o6, rfl, hs, hcl⟩
        have hla := hla.step hs (nn _) (nn _) (nn _); have hlb := hlb.step hs (nn _) (nn _); have hlc := hlc.step hs (nn _) (nn _) (nn _); have hst := hst.trans hs.above0; have hs1 := hs1.step hs (nn _)
        clear hs
        go_wp2_with fail
        refine hcl.mono ?_; rintro e w7 ⟨v7, o7, rfl, hs, hs2⟩
        have hla := hla.step hs (nn _) (nn _) (nn _); have hlb := hlb.step hs (nn _) (nn _); have hlc := hlc.step hs (nn _) (nn _) (nn _); have hst := hst.trans hs.above0; have hs1 := hs1.step hs (nn _)
        clear hs hcl
        obtain ⟨_, _, hw3, _, hw5, hw6, _⟩ := (hla.1).wf
        rw [hI3.out.re.1] at hs2
        have heq := equal_is hs1 hs2 (by (try dsimp only at hw3 hw5 hw6); (try dsimp only); omega) true (by simp)
        clear hs1 hs2 hw3 hw5 hw6
        go_wp2_with fail
        refine heq.mono ?_; rintro e w8 ⟨v8, o8, rfl, hs, rfl⟩
        have hla := hla.step hs (nn _) (nn _) (nn _); have hlb := hlb.step hs (nn _) (nn _); have hlc := hlc.step hs (nn _) (nn _) (nn _); have hst := hst.trans hs.above0
        clear hs heq
        go_wp2_with fail
        go_roundw
        case rel => exact ⟨j + 1, o8, ma', mb, d', s', by omega, by go_num, hla, hlb, hlc, hst, hI3.out.mono (by omega)⟩
        case measure => simp [intOf]; omega
      · obtain ⟨ma', d', s', e1, hca, hcs, hI2⟩ := hI.out.commitA (by omega) tx
        refine (commit_is hA0 hD0 hAD hla hrdH.out tx _ hbH.out hcap (by omega) hca).mono ?_; rintro e w2 ⟨v2, o2, rfl, hs, rfl, hla⟩
        have hlb := hlb.step hs nAB nA0
        have hlc := hlc.step hs nAC nAE nA0
        have hst := hst.trans (hs.above2 mA mD)
        have hb2 := hbH.out.step hs nA0
        have hcm := commit_is hC0 hE0 hEC hlc hrsH.out tx _ hb2 hcap (by omega) hcs
        clear hca hcs hs hlc hb2
        go_wp2_with fail
        refine hcm.mono ?_; rintro e w3 ⟨v3, o3, rfl, hs, rfl, hlc⟩
        have hla := hla.step hs nCA nCD nC0
        have hlb := hlb.step hs nCB nC0
        have hst := hst.trans (hs.above2 mC mE)
        clear hs hcm
        have hI3 := hidden hI2
        have hrm := hidden (LogM.Two8.rooms hI2)
        clear hI2
        go_wp2_with fail
        refine (room_is hla.1 _ rfl).mono ?_; rintro e w4 ⟨v4, o4, rfl, hs, rfl⟩
        have hla := hla.step hs (nn _) (nn _) (nn _); have hlb := hlb.step hs (nn _) (nn _); have hlc := hlc.step hs (nn _) (nn _) (nn _); have hst := hst.trans hs.above0
        clear hs
        go_wp2_with fail
        refine (room_is hlc.1 _ hrm.out).mono ?_; rintro e w4' ⟨v4, o4', rfl, hs, rfl⟩
        have hla := hla.step hs (nn _) (nn _) (nn _); have hlb := hlb.step hs (nn _) (nn _); have hlc := hlc.step hs (nn _) (nn _) (nn _); have hst := hst.trans hs.above0
        clear hs
        go_wp2_with fail
        refine (batches_texts hla.1).mono ?_; rintro e w4 ⟨v4, o4, rfl, hs, hcl⟩
        have hla := hla.step hs (nn _) (nn _) (nn _); have hlb := hlb.step hs (nn _) (nn _); have hlc := hlc.step hs (nn _) (nn _) (nn _); have hst := hst.trans hs.above0
        clear hs
        go_wp2_with fail
        refine hcl.mono ?_; rintro e w5 ⟨v5, o5, rfl, hs, hs1⟩
        have hla := hla.step hs (nn _) (nn _) (nn _); have hlb := hlb.step hs (nn _) (nn _); have hlc := hlc.step hs (nn _) (nn _) (nn _); have hst := hst.trans hs.above0
        clear hs hcl
        go_wp2_with fail
        refine (batches_texts hlc.1).mono ?_; rintro e w6 ⟨v6, o6, rfl, hs, hcl⟩
        have hla := hla.step hs (nn _) (nn _) (nn _); have hlb := hlb.step hs (nn _) (nn _); have hlc := hlc.step hs (nn _) (nn _) (nn _); have hst := hst.trans hs.above0; have hs1 := hs1.step hs (nn _)
        clear hs
        go_wp2_with fail
        refine hcl.mono ?_; rintro e w7 ⟨v7, o7, rfl, hs, hs2⟩
        have hla := hla.step hs (nn _) (nn _) (nn _); have hlb := hlb.step hs (nn _) (nn _); have hlc := hlc.step hs (nn _) (nn _) (nn _); have hst := hst.trans hs.above0; have hs1 := hs1.step hs (nn _)
        clear hs hcl
        obtain ⟨_, _, hw3, _, hw5, hw6, _⟩ := (hla.1).wf
        rw [hI3.out.re.1] at hs2
        have heq := equal_is hs1 hs2 (by (try dsimp only at hw3 hw5 hw6); (try dsimp only); omega) true (by simp)
        clear hs1 hs2 hw3 hw5 hw6
        go_wp2_with fail
        refine heq.mono ?_; rintro e w8 ⟨v8, o8, rfl, hs, rfl⟩
        have hla := hla.step hs (nn _) (nn _) (nn _); have hlb := hlb.step hs (nn _) (nn _); have hlc := hlc.step hs (nn _) (nn _) (nn _); have hst := hst.trans hs.above0
        clear hs heq
        go_wp2_with fail
        go_roundw
        case rel => exact ⟨j + 1, o8, ma', mb, d', s', by omega, by go_num, hla, hlb, hlc, hst, hI3.out.mono (by omega)⟩
        case measure => simp [intOf]; omega
    · have hjl : j = ll := by omega
      subst hjl
      have hag := LogM.Two8.again hI.out (by omega)
      have hrow : d.row.length ≤ 1000000 := by have := hrdH.out; omega
      have hx := open_yes hB0 hD0 hBD hla.2 hrow hI.out.ga.dd 0 8 (by omega) (by omega) (by have := hI.out.ga.fine.2.1; simp only [hI.out.fa.1, hI.out.fa.2] at this; exact this)
      have hxH := hidden hx
      have hagH := hidden hag
      clear hx hag hrow
      go_wp2_with fail
      refine hxH.out.mono ?_; rintro e w2 ⟨v2, o2, rfl, hs, hop⟩
      obtain ⟨p2, -, rfl, hlz⟩ := hop.2 hagH.out.1
      rw [hagH.out.2] at hlz
      have hst := hst.trans (hs.above1 mB)
      have hlc := hlc.step hs oBC oBE oB0
      clear hs hop hxH
      go_wp2_with fail
      refine (batches_texts hlz).mono ?_; rintro e w4 ⟨v4, o4, rfl, hs, hcl⟩
      have hlz := hlz.step hs (nn _) (nn _); have hlc := hlc.step hs (nn _) (nn _) (nn _); have hst := hst.trans hs.above0
      clear hs
      go_wp2_with fail
      refine hcl.mono ?_; rintro e w5 ⟨v5, o5, rfl, hs, hs1⟩
      have hlz := hlz.step hs (nn _) (nn _); have hlc := hlc.step hs (nn _) (nn _) (nn _); have hst := hst.trans hs.above0
      clear hs hcl
      go_wp2_with fail
      refine (batches_texts hlc.1).mono ?_; rintro e w6 ⟨v6, o6, rfl, hs, hcl⟩
      have hlz := hlz.step hs (nn _) (nn _); have hlc := hlc.step hs (nn _) (nn _) (nn _); have hst := hst.trans hs.above0; have hs1 := hs1.step hs (nn _)
      clear hs
      go_wp2_with fail
      refine hcl.mono ?_; rintro e w7 ⟨v7, o7, rfl, hs, hs2⟩
      have hlz := hlz.step hs (nn _) (nn _); have hlc := hlc.step hs (nn _) (nn _) (nn _); have hst := hst.trans hs.above0; have hs1 := hs1.step hs (nn _)
      clear hs hcl
      obtain ⟨_, _, hw3, _, hw5, hw6, _⟩ := (hlz).wf
      rw [hI.out.re.1] at hs2
      have heq := equal_is hs1 hs2 (by (try dsimp only at hw3 hw5 hw6); (try dsimp only); omega) true (by simp)
      clear hs1 hs2 hw3 hw5 hw6
      go_wp2_with fail
      refine heq.mono ?_; rintro e w8 ⟨v8, o8, rfl, hs, rfl⟩
      have hlz := hlz.step hs (nn _) (nn _); have hlc := hlc.step hs (nn _) (nn _) (nn _); have hst := hst.trans hs.above0
      clear hs heq
      have hwk := wakes8_any w8 o8
      go_wp2_with fail
      refine hwk.mono ?_; rintro e w9 ⟨v9, o9, rfl, hs, rfl⟩
      have hst := (hst.trans hs.above0).noneAbove hM
      clear hwk hs
      go_wp2_with fail
      go_ret
      exact ⟨_, o9, rfl, hst, rfl⟩
end Go.Proofs.YtfgggkheadfiaaaR
/- The statement LogNil: acts of nil, of a dead disk; the walk. -/
namespace Go.Proofs.YtfgggkheadfiaaaR
open Go Go.RowKit
attribute [local go_sem ↓] Go.wp_at_zero Go.wp_at_succ

set_option maxRecDepth 100000 in
set_option maxHeartbeats 3200000 in
theorem reset_nil (w : World) (o : Own) : Calls Try.prog 43 #[.pointer none] w (Ret Nobody w o fun v _ _ => v = .int .i64 8) := by
  go_enter Try.func43, Try.ntmps43
  go_wp2_with fail
  refine (alive_nil _ _ _ _).mono ?_; rintro e w' ⟨rfl, rfl⟩
  go_wp2_with fail
  go_ret
  exact ⟨_, _, rfl, ((Step.refl Nobody w o).alloc _ (0, 0)).alloc _ (0, 0), rfl⟩
set_option maxRecDepth 100000 in
set_option maxHeartbeats 3200000 in
theorem commit_nil (w : World) (o : Own) (a : Option Addr) (n c : Nat) : Calls Try.prog 40 #[.pointer none, .slice a n c] w (Ret Nobody w o fun v _ _ => v = .int .i64 8) := by
  go_enter Try.func40, Try.ntmps40
  go_wp2_with fail
  all_goals
    refine (alive_nil _ _ _ _).mono ?_; rintro e w' ⟨rfl, rfl⟩
    go_wp2_with fail
    go_ret
    exact ⟨_, _, rfl, ((((Step.refl Nobody w o).alloc _ (0, 0)).alloc _ (0, 0)).alloc _ (0, 0)).alloc _ (0, 0), rfl⟩
section
variable {w : World} {o : Own} {L D p pd : Nat} {s : LogM × DiskM}
set_option maxRecDepth 100000 in
set_option maxHeartbeats 3200000 in
theorem reset_dead (h : LD w o L D p pd s) (hd : (s.1.dead || s.2.dead) = true) : Calls Try.prog 43 #[.pointer (some ⟨p, 0, none⟩)] w (Ret Nobody w o fun v _ _ => v = .int .i64 9) := by
  have hH := hidden h
  have hdH := hidden hd
  clear h hd
  go_enter Try.func43, Try.ntmps43
  go_wp2_with fail
  refine (alive_dead (hH.out.step (((Step.refl Nobody w o).alloc _ (0, 0)).alloc _ (0, 0)) (fun h => h) (fun h => h) (fun h => h)) hdH.out _ _ _).mono ?_; rintro e w' ⟨v, o', rfl, hs, rfl⟩
  go_wp2_with fail
  go_ret
  exact ⟨_, o', rfl, (((Step.refl Nobody w o).alloc _ (0, 0)).alloc _ (0, 0)).trans hs, rfl⟩
set_option maxRecDepth 100000 in
set_option maxHeartbeats 3200000 in
theorem commit_dead (h : LD w o L D p pd s) (hd : (s.1.dead || s.2.dead) = true) (a : Option Addr) (n c : Nat) : Calls Try.prog 40 #[.pointer (some ⟨p, 0, none⟩), .slice a n c] w (Ret Nobody w o fun v _ _ => v = .int .i64 9) := by
  have hH := hidden h
  have hdH := hidden hd
  clear h hd
  go_enter Try.func40, Try.ntmps40
  go_wp2_with fail
  all_goals
    refine (alive_dead (hH.out.step (((((Step.refl Nobody w o).alloc _ (0, 0)).alloc _ (0, 0)).alloc _ (0, 0)).alloc _ (0, 0)) (fun h => h) (fun h => h) (fun h => h)) hdH.out _ _ _).mono ?_; rintro e w' ⟨v, o', rfl, hs, rfl⟩
    go_wp2_with fail
    go_ret
    exact ⟨_, o', rfl, (((((Step.refl Nobody w o).alloc _ (0, 0)).alloc _ (0, 0)).alloc _ (0, 0)).alloc _ (0, 0)).trans hs, rfl⟩
end
/-- Whose blocks are that a call has made. -/
def extT (W : World) (o : Own) (t : Nat × Nat) : Own := fun k => if k < W.heap.size then o k else t
theorem Step.retag {T : Nat → Prop} {w w' : World} {o o' : Own} (hs : Step T w o w' o') (t : Nat × Nat) : Step T w o w' (extT w o t) := ⟨hs.os, hs.tape, hs.output, hs.size, fun _ hk => if_pos hk, hs.block⟩
theorem extT_new {W : World} {o : Own} {t : Nat × Nat} {k : Nat} (h : W.heap.size ≤ k) : extT W o t k = t := if_neg (by omega)
theorem own_block {w : World} {b e n : Nat} {v : Value} {xs : List Value} (h : w.ownsRow b e 1 v n xs) (hn : 0 < n) : ∃ g cap cur, v = .slice (some ⟨g, 0, none⟩) n cap ∧ b ≤ g ∧ w.heap[g]? = some (.cells (cur : List Value).toArray e (0, 0)) ∧ cur.take n = xs := by
  rcases h.2 with ⟨_, h0⟩ | ⟨g, cap, cur, rfl, h1, h2, h3, h4, h5, h6⟩
  · omega
  · exact ⟨g, cap, cur.toList, rfl, h1, by simpa using h2, by rw [Nat.mul_one] at h6; exact h6⟩
theorem take_get' {α : Type} {l xs : List α} {n i : Nat} (h : l.take n = xs) (hi : i < n) : l[i]? = xs[i]? := by rw [← h, List.getElem?_take, if_pos hi]

set_option maxRecDepth 100000 in
set_option maxHeartbeats 6400000 in
theorem logNil_walk (w : World) (o : Own) (ba : Option Addr) (bn bc : Nat) : Calls Try.prog 12 #[.slice ba bn bc] w (Ret Nobody w o fun v _ _ => v = .bool true) := by
  obtain ⟨M, -, hM⟩ := tag_bound o 0 w.heap.size
  obtain ⟨D, hD⟩ : ∃ D, D = M + 1 := ⟨_, rfl⟩
  obtain ⟨L, hL⟩ : ∃ L, L = M + 2 := ⟨_, rfl⟩
  obtain ⟨E, hE⟩ : ∃ E, E = M + 3 := ⟨_, rfl⟩
  have hD0 : D ≠ 0 := by omega
  have hL0 : L ≠ 0 := by omega
  have hE0 : E ≠ 0 := by omega
  have hLD : L ≠ D := by omega
  have mL : M < L := by omega
  have mD : M < D := by omega
  have mE : M < E := by omega
  have nEL : ¬ Only E L := fun h => by change _ = _ at h; omega
  have nED : ¬ Only E D := fun h => by change _ = _ at h; omega
  have nE0 : ¬ Only E 0 := fun h => by change _ = _ at h; omega
  have nDL : ¬ Only D L := fun h => by change _ = _ at h; omega
  have nD0 : ¬ Only D 0 := fun h => by change _ = _ at h; omega
  have nI0 : ¬ In L D 0 := fun h => by rcases h with h | h <;> omega
  have nI00 : ¬ In L D (0, 0).1 := nI0
  clear hD hL hE
  have nn : ∀ k, ¬ Nobody k := fun _ h => h
  -- the states
  obtain ⟨s0, hs0⟩ : ∃ s0, (LogM.raw 0 4 0, DiskM.new 4) = s0 := ⟨_, rfl⟩
  have hU0 : LogM.Up s0 := by rw [← hs0]; exact new_up (by omega)
  have h0n : s0.1.n = 4 := by rw [← hs0]; rfl
  have h0e : s0.1.end' = 1 := by rw [← hs0]; rfl
  have h0r : s0.1.records = [] := by rw [← hs0]; rfl
  obtain ⟨s1, c1, hU1, r1, -, -, -, -⟩ := LogM.commit_up hU0 [97, 98, 99] (by rw [h0n, h0e]; decide)
  rw [h0r] at r1
  have w0 : s0.2.row.length ≤ 700000 := by rw [hU0.row]; simp
  have hmade := fun (W : World) (O : Own) => made_is (w := W) (o := O) hL0 hD0 hLD 4 (by omega) (by omega)
  rw [hs0] at hmade
  clear hs0 hU0 h0n h0e h0r hU1
  go_enter Try.func12, Try.ntmps12
  go_wp2_with fail
  refine (open_nil 0 2 _).mono ?_; rintro e w' ⟨rfl, rfl⟩
  go_wp2_with fail
  refine (batches_nil _).mono ?_; rintro e w' ⟨rfl, rfl⟩
  go_wp2_with fail
  refine (room_nil _).mono ?_; rintro e w' ⟨rfl, rfl⟩
  go_wp2_with fail
  refine (commit_nil w o _ _ _).mono ?_; rintro e wc ⟨v, oc, rfl, hs, rfl⟩
  have hst := hs.above0 (M := M)
  clear hs
  go_wp2_with fail
  refine (reset_nil wc oc).mono ?_; rintro e wd ⟨v, od, rfl, hs, rfl⟩
  have hst := hst.trans hs.above0
  clear hs
  go_wp2_with fail
  refine (hmade wd od).mono ?_; rintro e wc ⟨v, oc, rfl, hs, pd, p, -, -, rfl, hld⟩
  have hsz := hst.size
  have hsz2 := hs.size
  have hst := hst.trans (hs.above1 mL)
  clear hs hmade
  -- t
  have hsa := (Step.refl Nobody wc oc).alloc (.cells (bvs [97, 98, 99]).toArray 5 (3, 4)) (0, 0)
  have hba := bytes_marked wc oc [97, 98, 99] (by decide)
  have hg0 : (wc.alloc (.cells (bvs [97, 98, 99]).toArray 5 (3, 4))).heap[wc.heap.size]? = some (.cells (bvs [97, 98, 99]).toArray 5 (3, 4)) := heap_alloc_new wc _
  have hgo : tagAt oc wc.heap.size (0, 0) wc.heap.size = (0, 0) := tagAt_same _ _ _
  have hld := hld.step hsa (nn _) (nn _) (nn _)
  have hst := hst.trans hsa.above0
  have hgw : w.heap.size ≤ wc.heap.size := by omega
  have hca := commit_is hL0 hD0 hLD hld w0 [97, 98, 99] _ hba (fun a n c h => by cases h; decide) (by decide) c1
  have hbv : bvs [97, 98, 99] = [.int .u8 97, .int .u8 98, .int .u8 99] := rfl
  rw [hbv] at hsa hba hca hst hld hg0
  have hcv : (convert 28 28 (.slice (some ⟨wc.heap.size, 0, none⟩) 3 3)).run Try.prog (wc.alloc (.cells #[.int .u8 97, .int .u8 98, .int .u8 99] 5)) = .ok (.slice (some ⟨wc.heap.size, 0, none⟩) 3 3) (wc.alloc (.cells #[.int .u8 97, .int .u8 98, .int .u8 99] 5 (3, 4))) := conv_marked wc [.int .u8 97, .int .u8 98, .int .u8 99] 3 3
  clear hba hsa hld
  go_wp2_with fail
  refine hca.mono ?_; rintro e we ⟨v, oe, rfl, hs, rfl, hld⟩
  have hgl := lt_of_block hg0
  have hg1 : we.heap[wc.heap.size]? = some (.cells #[.int .u8 97, .int .u8 98, .int .u8 99] 5 (3, 4)) := by rw [hs.block _ hgl (by rw [hgo]; exact nI0)]; exact hg0
  have hgo1 : oe wc.heap.size = (0, 0) := by rw [hs.own _ hgl]; exact hgo
  have hst := hst.trans (hs.above2 mL mD)
  clear hca hs hcv hg0 hgo hgl
  have cg : we.cell? ⟨wc.heap.size, 0, none⟩ = some (.int .u8 97) := by simp [World.cell?, hg1]
  have fg : we.frozen? ⟨wc.heap.size, 0, none⟩ = false := by simp [World.frozen?, hg1]
  have hlA := hld.1.setOther hL0 (g := wc.heap.size) (i := 0) (.int .u8 122) hgo1
  have hdA := hld.2.step ((Step.refl (Only 0) we oe).setCell (a := ⟨wc.heap.size, 0, none⟩) (.int .u8 122) (.inl (by rw [hgo1]; rfl))) (fun h => hD0 h)
  have hst := hst.setCell (a := ⟨wc.heap.size, 0, none⟩) (.int .u8 122) (.inr hgw)
  have hH := hidden (And.intro hlA (And.intro hdA hst))
  clear hlA hdA hst hld hg1 hgo1
  go_wp2_with fail
  obtain ⟨hlA, hdA, hst⟩ := hH.out
  clear hH cg fg
  have hszA := hst.size
  refine (batches_is hlA _ r1).mono ?_; rintro e wf ⟨v, oq, rfl, hs0, vs, hown, hrn, hrb, -⟩
  have hs := hs0.retag (E, 0)
  simp only [List.nil_append] at hown hrn hrb
  obtain ⟨x, hx⟩ : ∃ x, vs[0]? = some x := by
    have := hrb.1; exact ⟨_, List.getElem?_eq_getElem (by rw [this]; decide)⟩
  obtain ⟨g, c, rfl, hgb, hgl, hgc⟩ := ownsRow_cell hown hx
  have hxo := hrn.2 0 x _ hx rfl
  obtain ⟨gx, cx, cur, rfl, hgx, hgxh, hcur⟩ := own_block hxo (by decide)
  have hcv : (convert 28 9 (.slice (some ⟨gx, 0, none⟩) 3 cx)).run Try.prog wf = .ok (.string ⟨#[97, 98, 99]⟩) wf := conv_string (hrb.2 0 _ _ hx rfl)
  have hlB := hlA.step hs (nn _) (nn _)
  have hdB := hdA.step hs (nn _)
  have hst := hst.trans hs.above0
  have hgo : extT ((we.setCell ⟨wc.heap.size, 0, none⟩ (.int .u8 122))) oe (E, 0) gx = (E, 0) := extT_new hgx
  have hst := hst.setCell (a := ⟨gx, 1, none⟩) (.int .u8 122) (.inr (by show w.heap.size ≤ gx; omega))
  have hse := (Step.refl (Only E) wf (extT ((we.setCell ⟨wc.heap.size, 0, none⟩ (.int .u8 122))) oe (E, 0))).setCell (a := ⟨gx, 1, none⟩) (.int .u8 122) (.inl (by rw [hgo]; rfl))
  have hlC := hlB.step hse nEL nE0
  have hdC := hdB.step hse nED
  have cg : wf.cell? ⟨gx, 1, none⟩ = some (.int .u8 98) := by rw [cell_of_block hgxh 1, take_get' hcur (by decide)]; rfl
  have fg := free_of_block hgxh 1
  have hH := hidden (And.intro hlC (And.intro hdC hst))
  have hgcH : wf.cell? ⟨g, 0, none⟩ = some (.slice (some ⟨gx, 0, none⟩) 3 cx) := hgc
  clear hlA hdA hs0 hs hown hrn hrb hx hxo hgxh hcur hlB hdB hst hse hlC hdC hgc hgo hszA hgb hgl
  generalize extT ((we.setCell ⟨wc.heap.size, 0, none⟩ (.int .u8 122))) oe (E, 0) = of' at *
  go_wp2_with fail
  obtain ⟨hlA, hdA, hst⟩ := hH.out
  clear hH cg fg hcv hgcH
  refine (batches_is hlA _ r1).mono ?_; rintro e wg ⟨v, og, rfl, hs, vs, hown, hrn, hrb, hz⟩
  simp only [List.nil_append] at hown hrn hrb
  obtain ⟨x, hx⟩ : ∃ x, vs[0]? = some x := by
    have := hrb.1; exact ⟨_, List.getElem?_eq_getElem (by rw [this]; decide)⟩
  obtain ⟨ga, ca, rfl, hgab, hgal, hgac⟩ := ownsRow_cell hown hx
  have hxb := hrb.2 0 x _ hx rfl
  have hzg := hz ga hgab
  have hlA := hlA.step hs (nn _) (nn _)
  have hdA := hdA.step hs (nn _)
  have hst := hst.trans hs.above0
  clear hs hown hrn hrb hz hx hgab
  go_wp2_with fail
  refine (kill_any hdA).mono ?_; rintro e wh ⟨v, oh, rfl, hs, rfl, hdB⟩
  have hlB := hlA.step hs nDL nD0
  have hxb := hxb.step hs nD0
  have hst := hst.trans (hs.above1 mD)
  have hgc : wh.cell? ⟨ga, 0, none⟩ = some x := by
    have e := hs.block ga hgal (by rw [hzg]; exact nD0)
    rw [World.cell?_of_block (a := ⟨ga, 0, none⟩) e]; exact hgac
  have hdd : (s1.1.dead || (s1.2.kill).dead) = true := by show (s1.1.dead || true) = true; simp
  obtain ⟨xa, xc, rfl⟩ := slc_form hxb
  have hcv := conv_string hxb
  have hcv' : (convert 28 9 (.slice xa 3 xc)).run Try.prog wh = .ok (.string ⟨#[97, 98, 99]⟩) wh := hcv
  have hop := open_dead hdB rfl 0 4
  clear hs hxb hgac hdA hlA hzg hgal hcv
  go_wp2_with fail
  refine hop.mono ?_; rintro e w' ⟨rfl, rfl⟩
  have hcd := commit_dead (⟨hlB, hdB⟩ : LD wh oh L D p pd (s1.1, s1.2.kill)) hdd ba bn bc
  clear hop
  go_wp2_with fail
  refine hcd.mono ?_; rintro e wi ⟨v, oi, rfl, hs, rfl⟩
  have hlC := hlB.step hs (nn _) (nn _)
  have hdC := hdB.step hs (nn _)
  have hst := hst.trans hs.above0
  have hrd := reset_dead (⟨hlC, hdC⟩ : LD wi oi L D p pd (s1.1, s1.2.kill)) hdd
  clear hcd hs hcv' hgc hlB hdB
  go_wp2_with fail
  refine hrd.mono ?_; rintro e wj ⟨v, oj, rfl, hs, rfl⟩
  have hst := hst.trans hs.above0
  have hwk := wakes8_any wj oj
  clear hrd hs
  go_wp2_with fail
  refine hwk.mono ?_; rintro e wk ⟨v, ok, rfl, hs, rfl⟩
  have hst := (hst.trans hs.above0).noneAbove hM
  clear hwk hs
  go_wp2_with fail
  go_ret
  exact ⟨_, ok, rfl, hst, rfl⟩
end Go.Proofs.YtfgggkheadfiaaaR
/- Regions that draw their order, as in Mid, where only such sets of operations are looked at as hold, with each operation, what it waits for. -/
namespace Go.Proofs.YtfgggkheadfiaaaR
open Go Go.RowKit

section
variable {P : Program} {ops : Array Oper} {Q : Exit → Act → World → Prop} {md : Region.Mode} {S : World → Prop} {need : Nat → Bool}
/-- With each operation that has come up, those that it waits for have. -/
def Shut (md : Region.Mode) (ops : Array Oper) (idx : List Nat) (s : List Bool) : Prop := ∀ (k i : Nat), s[k]? = some true → idx[k]? = some i → ∀ (j i' : Nat), idx[j]? = some i' → depOn md ops i i' = true → s[j]? = some true
def shutB (md : Region.Mode) (ops : Array Oper) (idx : List Nat) (s : List Bool) : Bool :=
  idx.zipIdx.all fun x => idx.zipIdx.all fun y => !(s.getD x.2 false) || !(depOn md ops x.1 y.1) || s.getD y.2 false
theorem Shut.shutB {md : Region.Mode} {ops : Array Oper} {idx : List Nat} {s : List Bool} (h : Shut md ops idx s) : YtfgggkheadfiaaaR.shutB md ops idx s = true := by
  unfold YtfgggkheadfiaaaR.shutB
  rw [List.all_eq_true]
  rintro ⟨i, k⟩ hx
  rw [List.all_eq_true]
  rintro ⟨i', j⟩ hy
  have hx' := List.mem_zipIdx_iff_getElem?.1 hx
  have hy' := List.mem_zipIdx_iff_getElem?.1 hy
  simp only [Bool.or_eq_true, Bool.not_eq_true']
  cases hsk : s.getD k false with
  | false => exact .inl (.inl rfl)
  | true =>
    cases hd : depOn md ops i i' with
    | false => exact .inl (.inr rfl)
    | true =>
      right
      have h1 : s[k]? = some true := by
        rw [List.getD_eq_getElem?_getD] at hsk
        cases hq : s[k]? with
        | none => rw [hq] at hsk; cases hsk
        | some b => rw [hq] at hsk; simp only [Option.getD_some] at hsk; rw [hsk]
      have h2 := h k i h1 hx' j i' hy' hd
      rw [List.getD_eq_getElem?_getD, h2]; rfl
theorem Shut.none (md : Region.Mode) (ops : Array Oper) (idx : List Nat) : Shut md ops idx (List.replicate idx.length false) := by
  intro k i h
  rw [List.getElem?_replicate] at h
  split at h <;> cases h
theorem Shut.set {md : Region.Mode} {ops : Array Oper} {idx : List Nat} {s : List Bool} {k i : Nat} (h : Shut md ops idx s) (hk : idx[k]? = some i) (hsk : s[k]? = some false)
    (hdep : ∀ (j i' : Nat), idx[j]? = some i' → depOn md ops i i' = true → s[j]? = some true) (_hn : idx.Nodup) : Shut md ops idx (s.set k true) := by
  have hkl : k < s.length := (List.getElem?_eq_some_iff.1 hsk).1
  intro q iq hq hiq j i' hj hd
  by_cases hjk : k = j
  · subst hjk; rw [List.getElem?_set_self hkl]
  rw [List.getElem?_set_ne hjk]
  by_cases hqk : k = q
  · subst hqk
    rw [hk] at hiq
    simp only [Option.some.injEq] at hiq
    subst hiq
    exact hdep j i' hj hd
  · rw [List.getElem?_set_ne hqk] at hq
    exact h q iq hq hiq j i' hj hd
def midOkC (md : Region.Mode) (ops : Array Oper) (l : Array Bool) (idx : List Nat) (dsts : List Nat) : Bool :=
  (idx.length == dsts.length) && decide idx.Nodup && decide dsts.Nodup && (idx.all fun i => !l.getD i false) && ((idx.zip dsts).all fun x => match ops[x.1]? with | some o => o.dst == some x.2 | none => false) &&
  (boolLists idx.length).all fun s => !(shutB md ops idx s) || (s.all (fun b => b) || (let rd := Region.ready md ops (listedOf l idx s); !rd.isEmpty && rd.all (fun i => idx.contains i)))
theorem wpAnyN_midC (idx dsts : List Nat) (T : Nat → Prop) (J : List Bool → World → Own → Prop) (R : Nat → Value → World → Own → Prop) {fuel : Nat} {listed : Array Bool} {a : Act} {w : World} {o : Own}
    (hok : midOkC md ops listed idx dsts = true)
    (hR : ∀ k u w o w' o', R k u w o → Step T w o w' o' → R k u w' o')
    (us0 : List Value) (hus0 : us0.length = idx.length) (ha : Act.puts a dsts us0 = a)
    (h0 : J (List.replicate idx.length false) w o)
    (hstep : ∀ (k i : Nat) (op : Oper), idx[k]? = some i → ops[i]? = some op → ∀ (s : List Bool) (us : List Value) (w : World) (o : Own), s.length = idx.length → us.length = idx.length → s[k]? = some false →
      (∀ (j i' : Nat), idx[j]? = some i' → depOn md ops i i' = true → s[j]? = some true) → J s w o → (∀ j : Nat, s[j]? = some true → R j (us.getD j undef) w o) →
      wpList P ops (Exit.then (fun a' w' => ∃ v o', a' = (Act.puts a dsts us).put op.dst v ∧ Step T w o w' o' ∧ J (s.set k true) w' o' ∧ R k v w' o' ∧ (need i = true → S w')) Q) [op] (Act.puts a dsts us) w)
    (hend : ∀ (us : List Value) (w : World) (o : Own), us.length = idx.length → J (List.replicate idx.length true) w o → (∀ j : Nat, j < idx.length → R j (us.getD j undef) w o) →
      wpAnyN P md ops Q S need fuel (listedOf listed idx (List.replicate idx.length true)) (Act.puts a dsts us) w) :
    wpAnyN P md ops Q S need (fuel + idx.length) listed a w := by
  simp only [midOkC, Bool.and_eq_true, beq_iff_eq, decide_eq_true_eq] at hok
  obtain ⟨⟨⟨⟨⟨hl, hni⟩, hnd⟩, hfr⟩, hdst⟩, hsub⟩ := hok
  have key : ∀ (c : Nat) (s : List Bool) (us : List Value) (w : World) (o : Own), s.count false = c → s.length = idx.length → us.length = idx.length → Shut md ops idx s → J s w o → (∀ j : Nat, s[j]? = some true → R j (us.getD j undef) w o) →
      wpAnyN P md ops Q S need (fuel + c) (listedOf listed idx s) (Act.puts a dsts us) w := by
    intro c
    induction c with
    | zero =>
      intro s us w o hc hs hu hsh hJ hr
      have := all_of_count s hc
      rw [hs] at this
      subst this
      refine hend us w o hu hJ fun j hj => hr j ?_
      rw [List.getElem?_replicate, if_pos hj]
    | succ c ih =>
      intro s us w o hc hs hu hsh hJ hr
      have hsm := List.all_eq_true.1 hsub s (mem_boolLists _ s hs)
      have hnall : (s.all fun b => b) = false := by
        cases hq : (s.all fun b => b)
        · rfl
        · exfalso
          have : ∀ b ∈ s, b = true := by simpa using hq
          have h2 : s.count false = 0 := List.count_eq_zero.2 fun hm => by have := this _ hm; cases this
          omega
      rw [hnall, hsh.shutB] at hsm
      simp only [Bool.not_true, Bool.false_or, Bool.and_eq_true, Bool.not_eq_true', List.isEmpty_eq_false_iff] at hsm
      rw [← Nat.add_assoc]
      refine ⟨fun h => absurd h hsm.1, fun i hi => ?_⟩
      have hc1 := List.all_eq_true.1 hsm.2 i hi
      have hmem : i ∈ idx := by simpa using hc1
      obtain ⟨k, hk⟩ := List.mem_iff_getElem?.1 hmem
      have hkl : k < idx.length := (List.getElem?_eq_some_iff.1 hk).1
      obtain ⟨hun, op, hop, hall⟩ := mem_ready.1 hi
      have hsk : s[k]? = some false := by
        cases hb : s[k]? with
        | none => rw [List.getElem?_eq_none_iff] at hb; omega
        | some b =>
          cases b
          · rfl
          · have := listedOf_true idx s listed k i hk hb
            rw [hun] at this; cases this
      have hdk : ∃ d, dsts[k]? = some d ∧ op.dst = some d := by
        obtain ⟨d, hd⟩ : ∃ d, dsts[k]? = some d := ⟨_, List.getElem?_eq_getElem (by omega)⟩
        refine ⟨d, hd, ?_⟩
        have : (i, d) ∈ idx.zip dsts := List.mem_iff_getElem?.2 ⟨k, by rw [List.getElem?_zip_eq_some]; exact ⟨hk, hd⟩⟩
        have := List.all_eq_true.1 hdst _ this
        simp only [hop, beq_iff_eq] at this
        exact this
      obtain ⟨d, hd, hopd⟩ := hdk
      have hdep : ∀ (j i' : Nat), idx[j]? = some i' → depOn md ops i i' = true → s[j]? = some true := fun j i' hj hdp => by
        simp only [depOn, hop] at hdp
        obtain ⟨e, he, hb⟩ := Array.any_eq_true'.1 hdp
        simp only [Bool.and_eq_true, beq_iff_eq] at hb
        have h1 := hall e he hb.1
        rw [hb.2] at h1
        have hjl : j < idx.length := (List.getElem?_eq_some_iff.1 hj).1
        cases hb2 : s[j]? with
        | none => rw [List.getElem?_eq_none_iff] at hb2; omega
        | some b =>
          cases b
          · have hf := List.all_eq_true.1 hfr i' (List.mem_of_getElem? hj)
            have := listedOf_false idx s listed j i' hni hj hb2 (by simpa using hf)
            rw [h1] at this; cases this
          · rfl
      refine wpOp_mono ?_ (wpOp_one hop (hstep k i op hk hop s us w o hs hu hsk hdep hJ hr))
      rintro a' w' ⟨v, o', rfl, hst, hJ', hRk, hS⟩
      refine ⟨hS, ?_⟩
      rw [hopd, ← puts_set dsts us a k d v hnd hd (by omega), ← listedOf_set idx s listed k i hk (by omega) hsk]
      refine ih (s.set k true) (us.set k v) w' o' (by have := count_set s k hsk; omega) (by simpa using hs) (by simpa using hu) (hsh.set hk hsk hdep hni) hJ' fun j hj => ?_
      by_cases hjk : k = j
      · subst hjk
        rw [List.getD_eq_getElem?_getD, List.getElem?_set_self (by omega)]
        exact hRk
      · rw [List.getElem?_set_ne hjk] at hj
        rw [List.getD_eq_getElem?_getD, List.getElem?_set_ne hjk, ← List.getD_eq_getElem?_getD]
        exact hR j _ _ _ _ _ (hr j hj) hst
  have h1 := key idx.length (List.replicate idx.length false) us0 w o (by simp) (by simp) hus0 (Shut.none md ops idx) h0 (fun j hj => by rw [List.getElem?_replicate] at hj; split at hj <;> cases hj)
  have h2 : ∀ (is : List Nat) (l : Array Bool) (n : Nat), listedOf l is (List.replicate n false) = l := by
    intro is
    induction is with
    | nil => intros; rfl
    | cons i is ih =>
      intro l n
      cases n with
      | zero => rfl
      | succ n => simp only [List.replicate_succ, listedOf, Bool.false_eq_true, if_false]; exact ih l n
  rw [h2, ha] at h1
  exact h1

/-- The same, the operations written out (opl), each with its own goal. -/
theorem wpAnyN_midlC (idx dsts : List Nat) (opl : List Oper) (T : Nat → Prop) (J : List Bool → World → Own → Prop) (R : Nat → Value → World → Own → Prop) {fuel : Nat} {listed : Array Bool} {a : Act} {w : World} {o : Own}
    (hopl : (idx.map fun i => (ops.toList.drop i).head?) = opl.map some)
    (hok : midOkC md ops listed idx dsts = true)
    (hR : ∀ k u w o w' o', R k u w o → Step T w o w' o' → R k u w' o')
    (us0 : List Value) (hus0 : us0.length = idx.length) (ha : Act.puts a dsts us0 = a)
    (h0 : J (List.replicate idx.length false) w o)
    (hstep : stepsOf (idx.zip opl) 0 fun k i op => ∀ (s : List Bool) (us : List Value) (w : World) (o : Own), s.length = idx.length → us.length = idx.length → s[k]? = some false →
      (∀ (j i' : Nat), idx[j]? = some i' → depOn md ops i i' = true → s[j]? = some true) → J s w o → (∀ j : Nat, s[j]? = some true → R j (us.getD j undef) w o) →
      wpList P ops (Exit.then (fun a' w' => ∃ v o', a' = (Act.puts a dsts us).put op.dst v ∧ Step T w o w' o' ∧ J (s.set k true) w' o' ∧ R k v w' o' ∧ (need i = true → S w')) Q) [op] (Act.puts a dsts us) w)
    (hend : ∀ (us : List Value) (w : World) (o : Own), us.length = idx.length → J (List.replicate idx.length true) w o → (∀ j : Nat, j < idx.length → R j (us.getD j undef) w o) →
      wpAnyN P md ops Q S need fuel (listedOf listed idx (List.replicate idx.length true)) (Act.puts a dsts us) w) :
    wpAnyN P md ops Q S need (fuel + idx.length) listed a w := by
  refine wpAnyN_midC idx dsts T J R hok hR us0 hus0 ha h0 (fun k i op hk hop => ?_) hend
  have h1 := congrArg (·[k]?) hopl
  simp only [List.getElem?_map, hk, Option.map_some] at h1
  have h2 : (ops.toList.drop i).head? = some op := by rw [List.head?_drop]; simpa using hop
  rw [h2] at h1
  have h3 : opl[k]? = some op := by
    cases hq : opl[k]? with
    | none => rw [hq] at h1; cases h1
    | some q => rw [hq] at h1; simp only [Option.map_some, Option.some.injEq] at h1; rw [h1]
  have h4 := stepsOf_at _ _ _ hstep k i op (by rw [List.getElem?_zip_eq_some]; exact ⟨hk, h3⟩)
  rw [Nat.zero_add] at h4
  exact h4
end
end Go.Proofs.YtfgggkheadfiaaaR
/- What the walk of LogPower needs besides: appending to an empty row, reading new leftovers. -/
namespace Go.Proofs.YtfgggkheadfiaaaR
open Go Go.RowKit

/-- append onto a row of length and capacity 0: a new row. -/
theorem append_empty {P : Program} (W : World) (t ty e : TypeId) {zs : List Value} {size bytes : Nat} (ht : P.underlying t = some (.slice e))
    (hi : (P.info? e).map (fun i => (i.zero.map (fun z => z.cells.toList), i.size, i.bytes)) = some (some zs, size, bytes)) (hzs : zs.length = size)
    (a0 : Option Addr) (b off m c : Nat) (news : List Value) (hl : news.length = m * size) (hr : W.rangeAt b off news) (h1 : ∀ u ∈ news, u.oneCell' = true)
    (hm : 0 < m) (h63 : m ≤ 1000000000) (hbytes : m * bytes ≤ 140737488355328) :
    ∃ cap w', (Builtin.append_ #[t, t] ty #[.slice a0 0 0, .slice (some ⟨b, off, none⟩) m c]).run P W = .ok (.slice (some ⟨W.heap.size, 0, none⟩) m cap) w' ∧
      w'.ownsRow W.heap.size e size (.slice (some ⟨W.heap.size, 0, none⟩) m cap) m news ∧ Below W.heap.size W w' := by
  obtain ⟨i, z, hq, hz, e2, e3, e4⟩ := info_of hi
  subst e2 e3
  have hsrc : Src P i.size t (.slice (some ⟨b, off, none⟩) m c) m news W := Src.ofSlice W ht ⟨b, off, none⟩ m c news hl (fun j u hu => by rw [Addr.add_mid]; exact hr j u hu) h1
  have hold : (Builtin.firstCells i.size 0 (.slice a0 0 0)).run P W.drew = .ok #[] W.drew := by
    cases a0 with
    | none => exact run_firstCells_none W.drew i.size 0 0 0
    | some x => exact run_firstCells_some W.drew i.size 0 x 0 0 [] (by simp) (fun j v hj => by simp at hj)
  have hnext : Builtin.nextslicecap (0 + m) 0 = m := by unfold Builtin.nextslicecap; simp; omega
  have hrun := run_append_grow_src (P := P) W t t ty e i z ht hq hz a0 0 0 [] hold (.slice (some ⟨b, off, none⟩) m c) m news hsrc (by omega) (by omega) (by rw [hnext]; omega)
  rw [Nat.zero_add] at hrun
  refine ⟨_, _, hrun, ⟨hl, .inr ⟨W.heap.size, _, _, rfl, Nat.le_refl _, heap_alloc_new W.drew _, grownCap_ge _ _ _ _, grownCap_le_maxLen _ _ _ _ (by simp only [maxLen]; omega), ?_, ?_⟩⟩, ?_⟩
  · have hge := grownCap_ge W m 0 e
    simp only [Array.size_append, List.size_toArray, size_zeroCells, List.nil_append, hl]
    rw [e4]
    simp only [List.size_toArray, hzs, ← Nat.add_mul]
    congr 1; omega
  · simp only [List.nil_append, Array.toList_append]
    rw [List.take_left' hl]
  · exact ⟨rfl, rfl, rfl, by simp, fun k hk => Below.heap_alloc _ _ _ (by simpa using hk)⟩
theorem len4' {α : Type} {l : List α} (h : l.length = 4) : ∃ a b c d, l = [a, b, c, d] := len4 h
theorem Tries8.range {w : World} {o : Own} {b off n c : Nat} {l : List Try8} (h : Tries8 w o (.slice (some ⟨b, off, none⟩) n c) l) (i : Nat) (hi : i < l.length) : w.rangeAt b (off + i * 4) l[i].cells := by
  rcases h with ⟨_, rfl⟩ | ⟨b, off, cap, hv, hl, hm, ho, hb, hr⟩
  · simp at hi
  · simp only [Value.slice.injEq, Option.some.injEq, Addr.mk.injEq] at hv
    obtain ⟨⟨rfl, rfl, -⟩, rfl, rfl⟩ := hv
    exact (hr i hi).1
theorem load80 {w : World} {b off : Nat} {t : Try8} (hr : w.rangeAt b off t.cells) : (Instr.loadAt 80 (.pointer (some ⟨b, off, none⟩))).run Try.prog w = .ok (.agg t.cells.toArray) w := by
  simp only [Instr.loadAt, Instr.sureAddr, Sem.run_bind, Sem.run_pure, Result.andThen_ok]
  exact run_loadVar_mid w b off 80 t.cells _ hr Try.underlying80 rfl (by kernel_rfl)
theorem zc80 : ((Try.prog.info? 80).bind (·.zero)).map (·.cells) = some #[.bool false, .int .u8 0, .int .u16 0, .int .u8 0] := by kernel_rfl
theorem length_tvs (ls : List (List UInt8)) : (tvs ls).length = ls.length := by simp [tvs]
theorem one_tvs (ls : List (List UInt8)) : ∀ u ∈ tvs ls, u.oneCell' = true := by
  intro u hu
  simp only [tvs, List.mem_map] at hu
  obtain ⟨x, _, rfl⟩ := hu; rfl
theorem Step.ofBelow {w w' : World} {o : Own} (h : Below w.heap.size w w') (t : Nat × Nat) : Step Nobody w o w' (extT w o t) := ⟨h.os, h.tape, h.output, h.size, fun _ hk => if_pos hk, fun k hk _ => h.block k hk⟩
theorem ownsRow_low {w : World} {b b' e size n : Nat} {v : Value} {xs : List Value} (h : w.ownsRow b e size v n xs) (hb : b' ≤ b) : w.ownsRow b' e size v n xs := by
  refine ⟨h.1, ?_⟩
  rcases h.2 with hn | ⟨g, cap, cur, rfl, h1, rest⟩
  · exact .inl hn
  · exact .inr ⟨g, cap, cur, rfl, Nat.le_trans hb h1, rest⟩
theorem Below.mono {B B' : Nat} {w w' : World} (h : Below B w w') (hB : B' ≤ B) : Below B' w w' := ⟨h.os, h.tape, h.output, h.size, fun k hk => h.block k (Nat.lt_of_lt_of_le hk hB)⟩
theorem Below.trans {B : Nat} {w w1 w2 : World} (h : Below B w w1) (g : Below B w1 w2) : Below B w w2 := ⟨g.os.trans h.os, g.tape.trans h.tape, g.output.trans h.output, Nat.le_trans h.size g.size, fun k hk => (g.block k hk).trans (h.block k hk)⟩
namespace LogM
theorem Good.fuse {K : Nat} {l : LogM} {d : DiskM} (h : Good K (l, d)) (n : Int) (hn : n ≤ 9223372036854775807) : Good K (l, d.fuse n) := by
  have hd : d.dead = false := h.dd
  have e : d.fuse n = { d with left := max (-1) n } := by unfold DiskM.fuse; rw [hd]; rfl
  obtain ⟨h1, h2, ⟨h3, h4, h5, h6⟩, h7⟩ := h
  rw [e]
  refine ⟨hd, h2, ⟨h3, h4, h5, ?_⟩, h7⟩
  obtain ⟨q1, q2, q3, q4, q5, q6⟩ := h6
  exact ⟨q1, q2, q3, q4, by show -1 ≤ max (-1) n; omega, by show max (-1) n ≤ _; omega⟩
theorem _root_.Go.Proofs.YtfgggkheadfiaaaR.DiskM.fuse_pages (d : DiskM) (n : Int) : (d.fuse n).pages = d.pages := by unfold DiskM.fuse; split <;> rfl
theorem fuse_left {d : DiskM} (h : d.dead = false) (n : Int) : (d.fuse n).left = max (-1) n := by unfold DiskM.fuse; rw [h]; rfl
end LogM
end Go.Proofs.YtfgggkheadfiaaaR
/- The document's own disk (strings for pages) as it lies in memory, and contracts of its small functions: counts, Fuse, Seen, Read. It computes the same plain functions as the disk. -/
namespace Go.Proofs.YtfgggkheadfiaaaR
open Go Go.RowKit
attribute [local go_sem ↓] Go.wp_at_zero Go.wp_at_succ

def str (l : List UInt8) : Value := .string ⟨l.toArray⟩
def strs (ps : List (List UInt8)) : List Value := ps.map str
def refCells (row : List (Nat × List UInt8)) : List Value := row.flatMap fun x => [Value.int .i64 (x.1 : Int), str x.2]
theorem refCells_snoc (row : List (Nat × List UInt8)) (x : Nat × List UInt8) : refCells (row ++ [x]) = refCells row ++ [Value.int .i64 (x.1 : Int), str x.2] := by simp [refCells]
theorem get_refCells : ∀ (row : List (Nat × List UInt8)) (i : Nat) (hi : i < row.length), (refCells row)[2 * i]? = some (.int .i64 (row[i].1 : Int)) ∧ (refCells row)[2 * i + 1]? = some (str row[i].2)
  | x :: r, 0, _ => ⟨rfl, rfl⟩
  | x :: r, i + 1, hi => by
    have ih := get_refCells r i (by simpa using hi)
    have e : refCells (x :: r) = Value.int .i64 (x.1 : Int) :: str x.2 :: refCells r := rfl
    rw [e, show 2 * (i + 1) = 2 * i + 2 from by omega, show 2 * i + 2 + 1 = (2 * i + 1) + 2 from by omega]
    simpa using ih
theorem get_strs (ps : List (List UInt8)) (i : Nat) (hi : i < ps.length) : (strs ps)[i]? = some (str (ps.getD i [])) := by
  simp [strs, hi]
theorem strs_set (ps : List (List UInt8)) (i : Nat) (l : List UInt8) : (strs ps).set i (str l) = strs (ps.set i l) := by simp [strs, List.map_set]

/-- The document's disk d lies at block p; its blocks are the object E's. -/
def RefAt (w : World) (o : Own) (E p : Nat) (d : DiskM) : Prop :=
  ∃ pv rv,
    w.heap[p]? = some (.cells #[pv, rv, .int .i64 d.left, .bool d.dead] 51 (0, 0)) ∧
    w.ownsRow 0 9 1 pv d.pages.length (strs d.pages) ∧ w.ownsRow 0 174 2 rv d.row.length (refCells d.row) ∧
    o p = (E, 0) ∧ (∀ k, pv.ownBlock = some k → o k = (E, 1)) ∧ (∀ k, rv.ownBlock = some k → o k = (E, 2)) ∧ d.wf

theorem RefAt.step {T : Nat → Prop} {w w' : World} {o o' : Own} {E p : Nat} {d : DiskM} (h : RefAt w o E p d) (s : Step T w o w' o') (hT : ¬ T E) : RefAt w' o' E p d := by
  obtain ⟨pv, rv, hp, hl, hr, op, ol, orr, hwf⟩ := h
  have hpl := lt_of_block hp
  refine ⟨pv, rv, ?_, ?_, ?_, ?_, ?_, ?_, hwf⟩
  · rw [s.block p hpl (by rw [op]; exact hT)]; exact hp
  · exact ownsRow_same hl fun k hk => s.block k (hl.lt k hk).2 (by rw [ol k hk]; exact hT)
  · exact ownsRow_same hr fun k hk => s.block k (hr.lt k hk).2 (by rw [orr k hk]; exact hT)
  · rw [s.own p hpl]; exact op
  · intro k hk; rw [s.own k (hl.lt k hk).2]; exact ol k hk
  · intro k hk; rw [s.own k (hr.lt k hk).2]; exact orr k hk
theorem RefAt.wf {w : World} {o : Own} {E p : Nat} {d : DiskM} (h : RefAt w o E p d) : d.wf := by
  obtain ⟨pv, rv, hp, hl, hr, op, ol, orr, hwf⟩ := h; exact hwf
theorem RefAt.lt {w : World} {o : Own} {E p : Nat} {d : DiskM} (h : RefAt w o E p d) : p < w.heap.size := by
  obtain ⟨pv, rv, hp, hl, hr, op, ol, orr, hwf⟩ := h; exact lt_of_block hp
theorem RefAt.ofE {w : World} {o : Own} {E p : Nat} {d : DiskM} (h : RefAt w o E p d) : (o p).1 = E := by
  obtain ⟨pv, rv, hp, hl, hr, op, ol, orr, hwf⟩ := h; rw [op]
theorem RefAt.setStep {w : World} {o : Own} {E p : Nat} {d : DiskM} (h : RefAt w o E p d) (i : Nat) (v : Value) : Step (Only E) w o (w.setCell ⟨p, i, none⟩ v) o :=
  (Step.refl _ w o).setCell v (.inl h.ofE)
theorem RefAt.open {w : World} {o : Own} {E p : Nat} {d : DiskM} (h : RefAt w o E p d) : ∃ pv rv,
    (w.cell? ⟨p, 0, none⟩ = some pv ∧ w.cell? ⟨p, 1, none⟩ = some rv ∧ w.cell? ⟨p, 2, none⟩ = some (.int .i64 d.left) ∧ w.cell? ⟨p, 3, none⟩ = some (.bool d.dead)) ∧
    (w.frozen? ⟨p, 1, none⟩ = false ∧ w.frozen? ⟨p, 2, none⟩ = false ∧ w.frozen? ⟨p, 3, none⟩ = false) ∧
    w.ownsRow 0 9 1 pv d.pages.length (strs d.pages) ∧ w.ownsRow 0 174 2 rv d.row.length (refCells d.row) ∧
    o p = (E, 0) ∧ (∀ k, pv.ownBlock = some k → o k = (E, 1)) ∧ (∀ k, rv.ownBlock = some k → o k = (E, 2)) := by
  obtain ⟨pv, rv, hp, hl, hr, op, ol, orr, hwf⟩ := h
  exact ⟨pv, rv, ⟨cell_of_block hp 0, cell_of_block hp 1, cell_of_block hp 2, cell_of_block hp 3⟩, ⟨free_of_block hp 1, free_of_block hp 2, free_of_block hp 3⟩, hl, hr, op, ol, orr⟩
theorem RefAt.setAny {w : World} {o : Own} {E p : Nat} {d d' : DiskM} (h : RefAt w o E p d) (i : Nat) (v : Value) (hc : ∀ pv rv, ([pv, rv, .int .i64 d.left, .bool d.dead] : List Value).set i v = [pv, rv, .int .i64 d'.left, .bool d'.dead])
    (hpg : d'.pages = d.pages) (hrw : d'.row = d.row) (hwf' : d'.wf) : RefAt (w.setCell ⟨p, i, none⟩ v) o E p d' := by
  obtain ⟨pv, rv, hp, hl, hr, op, ol, orr, hwf⟩ := h
  refine ⟨pv, rv, ?_, ?_, ?_, op, ol, orr, hwf'⟩
  · rw [heap_setCell_at _ hp, hc]
  · rw [hpg]
    refine ownsRow_same hl fun k hk => Below.heap_setCell _ _ _ _ ?_
    rintro rfl; have := ol _ hk; rw [op] at this; simp at this
  · rw [hrw]
    refine ownsRow_same hr fun k hk => Below.heap_setCell _ _ _ _ ?_
    rintro rfl; have := orr _ hk; rw [op] at this; simp at this
theorem RefAt.setLeft {w : World} {o : Own} {E p : Nat} {d : DiskM} (h : RefAt w o E p d) (n : Int) (hn : -1 ≤ n ∧ n ≤ 9223372036854775807) : RefAt (w.setCell ⟨p, 2, none⟩ (.int .i64 n)) o E p { d with left := n } :=
  h.setAny 2 _ (fun _ _ => rfl) rfl rfl (by obtain ⟨h1, h2, h3, h4, h5, h6⟩ := h.wf; exact ⟨h1, h2, h3, h4, hn.1, hn.2⟩)
theorem RefAt.setDead {w : World} {o : Own} {E p : Nat} {d : DiskM} (h : RefAt w o E p d) (b : Bool) : RefAt (w.setCell ⟨p, 3, none⟩ (.bool b)) o E p { d with dead := b } :=
  h.setAny 3 _ (fun _ _ => rfl) rfl rfl h.wf
theorem RefAt.setRowNil {w : World} {o : Own} {E p : Nat} {d : DiskM} (h : RefAt w o E p d) : RefAt (w.setCell ⟨p, 1, none⟩ (.slice none 0 0)) o E p { d with row := [] } := by
  obtain ⟨pv, rv, hp, hl, hr, op, ol, orr, hwf⟩ := h
  refine ⟨pv, .slice none 0 0, heap_setCell_at _ hp, ?_, World.ownsRow_nil _ _ _ _, op, ol, ?_, ?_⟩
  · refine ownsRow_same hl fun k hk => Below.heap_setCell _ _ _ _ ?_
    rintro rfl; have := ol _ hk; rw [op] at this; simp at this
  · intro k hk; simp [Value.ownBlock] at hk
  · obtain ⟨h1, h2, h3, h4, h5, h6⟩ := hwf; exact ⟨h1, h2, h3, by simp, h5, h6⟩

set_option maxHeartbeats 400000 in
theorem counts_any {w : World} {o : Own} {E p : Nat} {d : DiskM} (h : RefAt w o E p d) :
    Calls Try.prog 113 #[.pointer (some ⟨p, 0, none⟩)] w (Ret (Only E) w o fun v w' o' => v = .bool (decide ((d.counted 0).2 = 0)) ∧ RefAt w' o' E p (d.counted 0).1) := by
  obtain ⟨-, -, -, -, b1, b2⟩ := h.wf
  obtain ⟨pv, rv, ⟨c0, c1, c2, c3⟩, ⟨f1, f2, f3⟩, hl, hr, op, ol, orr⟩ := h.open
  clear op ol orr hr hl
  by_cases h2 : d.left < 0
  · have hE : d.counted 0 = (d, 0) := by simp [DiskM.counted, h2]
    rw [hE]
    have h3 : (d.left == 0) = false := by simp; omega
    have h4 : ¬ 0 < d.left := by omega
    go_enter Try.func113, Try.ntmps113
    go_wp2
    go_ret
    exact ⟨_, o, rfl, Step.refl _ _ _, rfl, h⟩
  · by_cases h3 : d.left = 0
    · have hE : d.counted 0 = ({ d with dead := true }, 9) := by simp [DiskM.counted, h3]
      rw [hE]
      rw [h3] at c2
      have hs := h.setStep 3 (.bool true)
      have hd := h.setDead true
      clear h3 h2 b1 b2
      go_enter Try.func113, Try.ntmps113
      go_wp2
      go_ret
      exact ⟨_, o, rfl, hs, rfl, hd⟩
    · have hE : d.counted 0 = ({ d with left := d.left - 1 }, 0) := by simp [DiskM.counted, h2, h3]
      rw [hE]
      have hs := h.setStep 2 (.int .i64 (d.left - 1))
      have hd := h.setLeft (d.left - 1) (by omega)
      have h3' : (d.left == 0) = false := by simpa using h3
      have h4 : 0 < d.left := by omega
      clear h3 h2
      go_enter Try.func113, Try.ntmps113
      go_wp2
      go_ret
      exact ⟨_, o, rfl, hs, rfl, hd⟩

set_option maxHeartbeats 400000 in
theorem rfuse_any {w : World} {o : Own} {E p : Nat} {d : DiskM} (h : RefAt w o E p d) (n : Int) (hn : n ≤ 9223372036854775807) :
    Calls Try.prog 74 #[.pointer (some ⟨p, 0, none⟩), .int .i64 n] w (Ret (Only E) w o fun v w' o' => v = .tuple #[] ∧ RefAt w' o' E p (d.fuse n)) := by
  obtain ⟨pv, rv, ⟨c0, c1, c2, c3⟩, ⟨f1, f2, f3⟩, hl, hr, op, ol, orr⟩ := h.open
  clear op ol orr hr hl
  by_cases hd : d.dead = true
  · rw [hd] at c3
    have hE : d.fuse n = d := by simp [DiskM.fuse, hd]
    rw [hE]
    go_enter Try.func74, Try.ntmps74
    go_wp2
    go_end0
    exact ⟨_, o, rfl, Step.refl _ _ _, rfl, h⟩
  · have hd' : d.dead = false := by simpa using hd
    rw [hd'] at c3
    have hE : d.fuse n = { d with left := max (-1) n } := by simp [DiskM.fuse, hd']
    rw [hE]
    clear hE hd' hd
    by_cases hn1 : ¬ -1 ≤ n
    · rw [show max (-1) n = -1 from by omega]
      have hs := h.setStep 2 (.int .i64 (-1))
      have hd := h.setLeft (-1) (by omega)
      go_enter Try.func74, Try.ntmps74
      go_wp2
      go_end0
      exact ⟨_, o, rfl, hs, rfl, hd⟩
    · have hn1 : -1 ≤ n := by omega
      rw [show max (-1) n = n from by omega]
      have hs := h.setStep 2 (.int .i64 n)
      have hd := h.setLeft n (by omega)
      go_enter Try.func74, Try.ntmps74
      go_wp2
      go_end0
      exact ⟨_, o, rfl, hs, rfl, hd⟩

theorem rrow_form {w : World} {e size n : Nat} {rv : Value} {xs : List Value} (h : w.ownsRow 0 e size rv n xs) : ∃ a cap, rv = .slice a n cap := by
  rcases h.2 with ⟨rfl, rfl⟩ | ⟨g, cap, cur, rfl, _⟩
  · exact ⟨_, _, rfl⟩
  · exact ⟨_, _, rfl⟩
theorem row_at {w : World} {e size n : Nat} {v : Value} {xs : List Value} (h : w.ownsRow 0 e size v n xs) (hn : 0 < n) : ∃ g cap, v = .slice (some ⟨g, 0, none⟩) n cap := by
  rcases h.2 with ⟨rfl, rfl⟩ | ⟨g, cap, cur, rfl, _⟩
  · omega
  · exact ⟨_, _, rfl⟩

set_option maxRecDepth 100000 in
set_option maxHeartbeats 1600000 in
theorem rseen_any {w : World} {o : Own} {E p : Nat} {d : DiskM} (h : RefAt w o E p d) (n : Nat) (hn : n < d.pages.length) (hrow : d.row.length ≤ 1000000) :
    Calls Try.prog 76 #[.pointer (some ⟨p, 0, none⟩), .int .i64 (n : Int)] w fun e w' => e = .returned (str (d.seen n)) ∧ w = w' := by
  obtain ⟨hw1, hw2, hw3, hw4, -, -⟩ := h.wf
  obtain ⟨pv, rv, ⟨c0, c1, c2, c3⟩, ⟨f1, f2, f3⟩, hl, hr, op, ol, orr⟩ := h.open
  obtain ⟨pg, pc, rfl⟩ := row_at hl (by omega)
  obtain ⟨ra, rc, rfl⟩ := rrow_form hr
  have hpc : w.cell? ⟨pg, n, none⟩ = some (str (d.pages.getD n [])) := by rw [hl.cellAt n (by omega)]; exact get_strs _ _ hn
  clear op ol orr hl c2 c3 f1 f2 f3
  unfold DiskM.seen
  unfold str at hpc
  generalize d.pages.getD n [] = page at *
  go_enter Try.func76, Try.ntmps76
  go_wp2_with fail
  go_loop [5, 6] (fun s i => ∃ k : Nat, k ≤ d.row.length ∧ i = .int .i64 k ∧ s = str (DiskM.seenIn n page (d.row.take k))) (fun _ i => d.row.length - (intOf i).toNat)
  case atStart => exact ⟨0, by omega, rfl, rfl⟩
  case round =>
    obtain ⟨k, hk, rfl, rfl⟩ := hrel
    by_cases hlt : k < d.row.length
    · obtain ⟨g, cap, hv⟩ := row_at hr (by omega)
      simp only [Value.slice.injEq, true_and] at hv
      obtain ⟨rfl, rfl⟩ := hv
      have e1 : w.cell? ⟨g, k * 2, none⟩ = some (.int .i64 (d.row[k].1 : Int)) := by rw [hr.cellAt _ (by omega), Nat.mul_comm]; exact (get_refCells _ _ hlt).1
      have e2 : w.cell? ⟨g, k * 2 + 1, none⟩ = some (str d.row[k].2) := by rw [hr.cellAt _ (by omega), Nat.mul_comm]; exact (get_refCells _ _ hlt).2
      have hseen : DiskM.seenIn n page (d.row.take (k + 1)) = if d.row[k].1 = n then d.row[k].2 else DiskM.seenIn n page (d.row.take k) := by
        rw [List.take_succ_eq_append_getElem hlt, DiskM.seenIn, List.foldl_append]
        rfl
      have hseenH := hidden hseen
      clear hseen hr hw4 hw3
      generalize d.row[k] = x at *
      obtain ⟨xa, xl⟩ := x
      unfold str at e2
      simp only at e1 e2 hseenH
      by_cases heq : xa = n
      · have heqb : ((xa : Int) == (n : Int)) = true := by rw [heq]; simp
        go_wp2
        go_round
        case rel => exact ⟨k + 1, by omega, by go_num, by rw [hseenH.out, if_pos heq]; rfl⟩
        case measure => simp [intOf]; omega
      · have heqb : ((xa : Int) == (n : Int)) = false := by simp; omega
        go_wp2
        go_round
        case rel => exact ⟨k + 1, by omega, by go_num, by rw [hseenH.out, if_neg heq]⟩
        case measure => simp [intOf]; omega
    · have hk' : k = d.row.length := by omega
      subst hk'
      rw [List.take_length]
      go_wp2
      go_ret
      exact ⟨rfl, rfl⟩

set_option maxRecDepth 100000 in
set_option maxHeartbeats 800000 in
theorem rread_any {w : World} {o : Own} {E p : Nat} {d : DiskM} (h : RefAt w o E p d) (at' : Int) (hrow : d.row.length ≤ 1000000) :
    Calls Try.prog 36 #[.pointer (some ⟨p, 0, none⟩), .int .i64 at'] w fun e w' => e = .returned (.tuple #[str (d.read at').1, .int .i64 (d.read at').2]) ∧ w = w' := by
  obtain ⟨hw1, hw2, -, -, -, -⟩ := h.wf
  obtain ⟨pv, rv, ⟨c0, c1, c2, c3⟩, ⟨f1, f2, f3⟩, hl, hr, op, ol, orr⟩ := h.open
  obtain ⟨pg, pc, rfl⟩ := row_at hl (by omega)
  clear op ol orr hl hr c1 c2 f1 f2 f3
  by_cases hd : d.dead = true
  · rw [hd] at c3
    have hE : d.read at' = ([], 9) := by simp [DiskM.read, DiskM.asked, hd]
    rw [hE]
    go_enter Try.func36, Try.ntmps36
    go_wp2
    go_ret2
    exact ⟨rfl, rfl⟩
  · have hd' : d.dead = false := by simpa using hd
    rw [hd'] at c3
    by_cases h1 : at' < 0
    · have hE : d.read at' = ([], 1) := by simp [DiskM.read, DiskM.asked, hd', h1]
      rw [hE]
      go_enter Try.func36, Try.ntmps36
      go_wp2
      go_ret2
      exact ⟨rfl, rfl⟩
    · by_cases h2 : (d.pages.length : Int) ≤ at'
      · have hE : d.read at' = ([], 1) := by simp [DiskM.read, DiskM.asked, hd', h2]
        rw [hE]
        go_enter Try.func36, Try.ntmps36
        go_wp2
        go_ret2
        exact ⟨rfl, rfl⟩
      · have hE : d.read at' = (d.seen at'.toNat, 0) := by simp [DiskM.read, DiskM.asked, hd', h1, h2]
        rw [hE]
        obtain ⟨n, rfl⟩ := Int.eq_ofNat_of_zero_le (show 0 ≤ at' by omega)
        rw [Int.toNat_natCast]
        go_enter Try.func36, Try.ntmps36
        go_wp2_with ((with_reducible refine (rseen_any h n (by omega) hrow).mono ?_); rintro e w' ⟨rfl, rfl⟩)
        go_ret2
        exact ⟨rfl, rfl⟩
end Go.Proofs.YtfgggkheadfiaaaR
