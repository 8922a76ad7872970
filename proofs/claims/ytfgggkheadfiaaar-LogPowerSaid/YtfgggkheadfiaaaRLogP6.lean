/- Plain laws: what a log's act leaves, whether the power stays or goes in its midst. No program in sight. -/
import Derived.Test.YtfgggkheadfiaaaRLogP5
namespace Go.Proofs.YtfgggkheadfiaaaR
open Go Go.RowKit

namespace LogM
/-- A disk but for one part is as another. -/
def Oth (f n : Nat) (d d' : DiskM) : Prop := d'.pages.length = d.pages.length ∧ ∀ j, (j < f ∨ f + n ≤ j) → d'.seen j = d.seen j
theorem Oth.refl (f n : Nat) (d : DiskM) : Oth f n d d := ⟨rfl, fun _ _ => rfl⟩
theorem Oth.trans {f n : Nat} {d d1 d2 : DiskM} (h : Oth f n d d1) (g : Oth f n d1 d2) : Oth f n d d2 := ⟨g.1.trans h.1, fun j hj => (g.2 j hj).trans (h.2 j hj)⟩
/-- The log is what its pages tell, the power is on, and nothing waits. -/
structure Good (K : Nat) (s : LogM × DiskM) : Prop where
  dd : s.2.dead = false
  row : s.2.row = []
  fine : Fine s
  pg : ∀ j, j < s.1.n → PageOk K (s.2.seen (s.1.first + j))
theorem Good.ld {K : Nat} {s : LogM × DiskM} (h : Good K s) : s.1.dead = false := by rw [h.fine.1]; rfl
theorem Good.ends {K : Nat} {s : LogM × DiskM} (h : Good K s) : 1 ≤ s.1.end' ∧ s.1.end' ≤ s.1.n := by
  have := end_le s.1.first (seenPages s.2 s.1.first s.1.n) (by rw [length_seenPages]; have := h.fine.2.2.1; omega)
  rw [length_seenPages, ← h.fine.1] at this; exact this
theorem Good.up {K : Nat} {s : LogM × DiskM} (h : Good K s) (hl : s.2.left < 0) : Up s := ⟨h.ld, h.dd, hl, h.fine.2.1, h.fine.2.2.1, h.ends.1, h.ends.2, h.row⟩
theorem num8 {p : List UInt8} (h : p.length = 512) : (num (p.take 8)).toNat = numN (p.take 8) ∧ (num (p.drop 504)).toNat = numN (p.drop 504) := ⟨num_small (by simp; omega), num_small (by simp; omega)⟩
theorem Good.newest {K : Nat} {s : LogM × DiskM} (h : Good K s) : newest (seenPages s.2 s.1.first s.1.n) = s.1.stamp := by
  have := congrArg LogM.stamp h.fine.1
  exact this.symm
theorem mem_seen {d : DiskM} {f n j : Nat} (hj : j < n) : d.seen (f + j) ∈ seenPages d f n := List.mem_of_getElem? (get_seenPages d f n j hj)
theorem of_mem_seen {d : DiskM} {f n : Nat} {p : List UInt8} (h : p ∈ seenPages d f n) : ∃ j, j < n ∧ p = d.seen (f + j) := by
  unfold seenPages at h
  simp only [List.mem_map, List.mem_range] at h
  obtain ⟨j, hj, rfl⟩ := h
  exact ⟨j, hj, rfl⟩
theorem newest_seen {K f n : Nat} {d : DiskM} (h : ∀ j, j < n → PageOk K (d.seen (f + j))) : (LogM.newest (seenPages d f n)).toNat ≤ K := by
  rw [newest_le]
  intro p hp
  obtain ⟨j, hj, rfl⟩ := of_mem_seen hp
  obtain ⟨h1, h2, h3, -⟩ := h j hj
  obtain ⟨e1, e2⟩ := num8 h1
  rw [e1, e2]; exact ⟨h2, h3⟩
theorem Good.stamp_le {K : Nat} {s : LogM × DiskM} (h : Good K s) : s.1.stamp.toNat ≤ K := by rw [← h.newest]; exact newest_seen h.pg
theorem Good.page {K : Nat} {s : LogM × DiskM} (h : Good K s) {j : Nat} (hj : j < s.1.n) : PageOk s.1.stamp.toNat (s.2.seen (s.1.first + j)) := by
  obtain ⟨h1, h2, h3, h4⟩ := h.pg j hj
  have hn := newest_ge (mem_seen (d := s.2) (f := s.1.first) hj)
  obtain ⟨e1, e2⟩ := num8 h1
  rw [e1, e2, h.newest] at hn
  exact ⟨h1, hn.1, hn.2, h4⟩
theorem Good.next {K : Nat} {s : LogM × DiskM} (h : Good K s) (hK : K < 65536) : (s.1.stamp + 1#64).toNat = s.1.stamp.toNat + 1 := by
  have := h.stamp_le
  rw [BitVec.toNat_add]
  simp
  omega

/-- Writes of pages that follow one another, and a Sync. -/
theorem puts_any {d : DiskM} (hd : d.dead = false) (hw : d.wf) (hrow : d.row = []) (l : LogM) (of' : Nat) (b : List UInt8) (k : Nat) (hf : l.first + l.end' + k ≤ d.pages.length) :
    (∃ d1 d', put l of' b k 0 d = (d1, 0) ∧ d1.sync = (d', 0) ∧ d'.dead = false ∧ d'.row = [] ∧ d'.wf ∧ d'.pages.length = d.pages.length ∧ (d.left < 0 → d'.left = d.left) ∧
      ∀ j, d'.seen j = if l.first + l.end' ≤ j ∧ j < l.first + l.end' + k then LeafM.page ⟨l.stamp, j - (l.first + l.end'), of', part b (j - (l.first + l.end'))⟩ else d.seen j) ∨
    (0 ≤ d.left ∧ ∃ d', (put l of' b k 0 d = (d', 9) ∨ ∃ d1, put l of' b k 0 d = (d1, 0) ∧ d1.sync = (d', 9)) ∧ d'.dead = true ∧ ∃ m, m ≤ k ∧ d'.pages = d.pages ∧
      d'.row = (List.range m).map fun t => (l.first + l.end' + t, LeafM.page ⟨l.stamp, t, of', part b t⟩)) := by
  obtain ⟨m, d1, q1, q2, q3, q4, q5, q6, q7⟩ := put_any l l.stamp rfl of' b k 0 d hd hf
  rw [hrow, List.nil_append] at q4
  simp only [Nat.add_zero, Nat.zero_add] at q4
  by_cases hm : m = k
  · subst hm
    rw [if_pos rfl] at q2
    have hd1 : d1.dead = false := by rw [q5]; simp
    have hp1 : 0 < d1.pages.length := by rw [q3]; have := hw.1; omega
    have hs := DiskM.sync_in hd1 hp1
    obtain ⟨t1, t2, t3⟩ := DiskM.tick_same d1
    by_cases h0 : d1.left = 0
    · rw [if_pos h0] at hs
      right
      refine ⟨?_, _, .inr ⟨d1, q2, hs⟩, rfl, m, Nat.le_refl _, q3, q4⟩
      by_cases hn : d.left < 0
      · have := (q6 hn).2; omega
      · omega
    · rw [if_neg h0] at hs
      left
      have hx : ∀ x ∈ d1.row, x.1 < d1.pages.length ∧ x.2.length = 512 := by
        rw [q4, q3]
        intro x hx
        simp only [List.mem_map, List.mem_range] at hx
        obtain ⟨t, ht, rfl⟩ := hx
        exact ⟨by show l.first + l.end' + t < _; omega, LeafM.length_page (length_part _ _)⟩
      have hq : ∀ p ∈ d1.pages, p.length = 512 := by rw [q3]; exact hw.2.2.1
      have hpw := DiskM.donePages_wf (fun _ => 512) (by simp) d1.pages hq d1.row hx
      have hlen : (d1.tick.done fun _ => 512).pages.length = d.pages.length := by
        show (DiskM.donePages _ d1.tick.pages d1.tick.row).length = _
        rw [t1, t2, hpw.1, q3]
      have hleft : -1 ≤ d1.tick.left ∧ d1.tick.left ≤ 9223372036854775807 ∧ (d.left < 0 → d1.tick.left = d.left) := by
        have h5 := hw.2.2.2.2
        obtain ⟨u1, u2⟩ := DiskM.tick_left d1
        by_cases hn : d.left < 0
        · have := (q6 hn).2
          have := u1 (by omega)
          refine ⟨by omega, by omega, fun _ => by omega⟩
        · have := q7 (by omega)
          have := u2 (by omega)
          refine ⟨by omega, by omega, fun h => by omega⟩
      refine ⟨d1, _, q2, hs, t3.trans hd1, rfl, ?_, hlen, hleft.2.2, fun j => ?_⟩
      · refine ⟨by rw [hlen]; exact hw.1, by rw [hlen]; exact hw.2.1, ?_, (by intro x hx; cases hx), hleft.1, hleft.2.1⟩
        show ∀ p ∈ DiskM.donePages _ d1.tick.pages d1.tick.row, _
        rw [t1, t2]; exact hpw.2
      · show (DiskM.donePages (fun _ => 512) d1.tick.pages d1.tick.row).getD j [] = _
        rw [t1, t2, q3, q4, DiskM.torn_pages _ _ _ _ _ (by omega)]
        have hsj : d.seen j = d.pages.getD j [] := by unfold DiskM.seen; rw [hrow]; rfl
        rw [hsj]
        split
        · rename_i hj
          unfold DiskM.splicePage
          rw [List.take_of_length_le (by rw [LeafM.length_page (length_part _ _)]; omega), List.drop_eq_nil_of_le (by rw [DiskM.getD_wf hw.2.2.1 (by omega)]; omega), List.append_nil]
        · rfl
  · rw [if_neg hm] at q2
    right
    refine ⟨?_, d1, .inl q2, ?_, m, q1, q3, q4⟩
    · by_cases hn : d.left < 0
      · exact (hm (q6 hn).1).elim
      · omega
    · rw [q5]; simp; omega
/-- The power comes again. -/
theorem torn_any {d d' : DiskM} (hw : d.wf) (hrow : d.row = []) (hp : d'.pages = d.pages) (base m : Nat) (g : Nat → List UInt8) (hg : ∀ t, (g t).length = 512) (hr : d'.row = (List.range m).map fun t => (base + t, g t)) (hm : base + m ≤ d.pages.length) (fates : List Int) :
    (d'.restart fates).dead = false ∧ (d'.restart fates).row = [] ∧ (d'.restart fates).wf ∧ (d'.restart fates).left = -1 ∧ (d'.restart fates).pages.length = d.pages.length ∧
      ∀ j, (d'.restart fates).seen j = if base ≤ j ∧ j < base + m then DiskM.splicePage (DiskM.fate fates (j - base)) (g (j - base)) (d.seen j) else d.seen j := by
  have hx : ∀ x ∈ d'.row, x.1 < d'.pages.length ∧ x.2.length = 512 := by
    rw [hr, hp]
    intro x hx
    simp only [List.mem_map, List.mem_range] at hx
    obtain ⟨t, ht, rfl⟩ := hx
    exact ⟨by show base + t < _; omega, hg _⟩
  have hpw := DiskM.donePages_wf (DiskM.fate fates) (DiskM.fate_le fates) d'.pages (by rw [hp]; exact hw.2.2.1) d'.row hx
  have hlen : (d'.restart fates).pages.length = d.pages.length := by
    show (DiskM.donePages _ d'.pages d'.row).length = _
    rw [hpw.1, hp]
  refine ⟨rfl, rfl, ⟨by rw [hlen]; exact hw.1, by rw [hlen]; exact hw.2.1, hpw.2, (by intro x hx; cases hx), by show (-1 : Int) ≤ -1; omega, by show (-1 : Int) ≤ _; omega⟩, rfl, hlen, fun j => ?_⟩
  show (DiskM.donePages _ d'.pages d'.row).getD j [] = _
  rw [hp, hr, DiskM.torn_pages _ _ _ _ _ hm]
  have hsj : d.seen j = d.pages.getD j [] := by unfold DiskM.seen; rw [hrow]; rfl
  rw [hsj]

/-- Behind a loss of power: the part tells a log again, with one of two rows of records. -/
structure Back (K f n : Nat) (d d2 : DiskM) (R R' : List (List UInt8)) : Prop where
  good : Good K (ofPages f (seenPages d2 f n), d2)
  left : d2.left = -1
  oth : Oth f n d d2
  recs : (ofPages f (seenPages d2 f n)).records = R ∨ (ofPages f (seenPages d2 f n)).records = R'
theorem seen_n (f n : Nat) (d : DiskM) : (ofPages f (seenPages d f n)).n = n := length_seenPages d f n
theorem good_back {K f n : Nat} {d2 : DiskM} (h1 : d2.dead = false) (h2 : d2.row = []) (h3 : d2.wf) (h4 : f + n ≤ d2.pages.length) (h5 : 2 ≤ n) (h6 : ∀ j, j < n → PageOk K (d2.seen (f + j))) : Good K (ofPages f (seenPages d2 f n), d2) := by
  refine ⟨h1, h2, ⟨?_, ?_, ?_, h3⟩, ?_⟩
  · show ofPages f (seenPages d2 f n) = ofPages f (seenPages d2 f (ofPages f (seenPages d2 f n)).n)
    rw [seen_n]
  · show f + (ofPages f (seenPages d2 f n)).n ≤ _
    rw [seen_n]; exact h4
  · show 2 ≤ (ofPages f (seenPages d2 f n)).n
    rw [seen_n]; exact h5
  · show ∀ j, j < (ofPages f (seenPages d2 f n)).n → _
    rw [seen_n]; exact h6

theorem ofPages_torn {f : Nat} {pages pages' : List (List UInt8)} {S : BitVec 64} {b : List UInt8} (hh : (ofPages f pages).headed = true) (hS : (LogM.newest pages).toNat < S.toNat) (hk : many b < 65536)
    (hout : ∀ j, (j < (ofPages f pages).end' ∨ (ofPages f pages).end' + many b ≤ j) → pages'[j]? = pages[j]?)
    (hin : ∀ i, i < many b → ∃ p', pages'[(ofPages f pages).end' + i]? = some p' ∧ (pages[(ofPages f pages).end' + i]? = some p' ∨ p' = LeafM.page ⟨S, i, many b, part b i⟩ ∨ (saidL p').2 = false)) :
    (ofPages f pages').records = (ofPages f pages).records ∨ (ofPages f pages').records = (ofPages f pages).records ++ [b] := by
  have hh' : isHead (leavesOf pages) = true := hh
  have hee : (ofPages f pages).end' = (readAll (leavesOf pages)).1 := by show (if isHead (leavesOf pages) then _ else _) = _; rw [if_pos hh']
  have hrr : (ofPages f pages).records = (readAll (leavesOf pages)).2.2 := by show (if isHead (leavesOf pages) then _ else _) = _; rw [if_pos hh']
  rw [hee] at hout hin
  obtain ⟨a, c⟩ := records_put hh' hS hk hout hin
  have hr' : (ofPages f pages').records = (readAll (leavesOf pages')).2.2 := by show (if isHead (leavesOf pages') then _ else _) = _; rw [if_pos a]
  rw [hrr, hr']
  rcases c with ⟨c, -⟩ | ⟨-, c⟩
  · left; rw [c]
  · right; rw [c]
theorem ofPages_torn_head {f : Nat} {pages pages' : List (List UInt8)} {S : BitVec 64} (hS : (LogM.newest pages).toNat < S.toNat) (hout : ∀ j, 1 ≤ j → pages'[j]? = pages[j]?)
    (hin : pages'[0]? = pages[0]? ∨ pages'[0]? = some (LeafM.page ⟨S, 0, 0, []⟩) ∨ ∃ p, pages'[0]? = some p ∧ (saidL p).2 = false) :
    (ofPages f pages').records = (ofPages f pages).records ∨ (ofPages f pages').records = [] := by
  obtain ⟨a, c⟩ := records_head hS hout hin
  by_cases h : pages'[0]? = some (LeafM.page ⟨S, 0, 0, []⟩)
  · right
    obtain ⟨a1, a2⟩ := a h
    show (if isHead (leavesOf pages') then (readAll (leavesOf pages')).2.2 else []) = []
    rw [if_pos a1, a2]
  · rcases c h with c | c
    · left
      show (if isHead (leavesOf pages') then (readAll (leavesOf pages')).2.2 else []) = (if isHead (leavesOf pages) then (readAll (leavesOf pages)).2.2 else [])
      rw [c]
    · right
      show (if isHead (leavesOf pages') then (readAll (leavesOf pages')).2.2 else []) = []
      rw [c]; rfl

theorem part_nil (i : Nat) : part [] i = [] := by simp [part]
theorem seen_none {d : DiskM} {f n j : Nat} (hj : n ≤ j) : (seenPages d f n)[j]? = none := List.getElem?_eq_none (by rw [length_seenPages]; exact hj)
/-- The log with a new head. -/
def reheaded (l : LogM) : LogM := { l with stamp := l.stamp + 1#64, headed := true, records := [], end' := 1 }
theorem head_cases {K : Nat} {s : LogM × DiskM} (h : Good K s) (hK : K + 1 < 65536) :
    (∃ d', head s = (({ s.1 with stamp := s.1.stamp + 1#64 }, d'), 0) ∧ Good (K + 1) (reheaded s.1, d') ∧ Oth s.1.first s.1.n s.2 d' ∧ (s.2.left < 0 → d'.left = s.2.left)) ∨
    (0 ≤ s.2.left ∧ ∃ d', head s = (({ s.1 with stamp := s.1.stamp + 1#64 }, d'), 9) ∧ d'.dead = true ∧ d'.row.length ≤ 4096 ∧ ∀ fates, Back (K + 256) s.1.first s.1.n s.2 (d'.restart fates) s.1.records []) := by
  have hfit := h.fine.2.1
  have hn2 := h.fine.2.2.1
  have hw := h.fine.2.2.2
  have hst := h.stamp_le
  have hnx := h.next (by omega)
  obtain ⟨S, hS⟩ : ∃ S, s.1.stamp + 1#64 = S := ⟨_, rfl⟩
  have hput : ∀ d, put { s.1 with stamp := S, end' := 0 } 0 [] 1 0 d = (let r := d.write s.1.first (LeafM.page ⟨S, 0, 0, []⟩); if r.2 ≠ 0 then r else (r.1, 0)) := fun d => by
    show (let r := d.write ((s.1.first + 0 + 0 : Nat) : Int) (LeafM.page ⟨S, 0, 0, part [] 0⟩); if r.2 ≠ 0 then r else put _ _ _ 0 _ r.1) = _
    rw [part_nil]; rfl
  have hnew : (LogM.newest (seenPages s.2 s.1.first s.1.n)).toNat < S.toNat := by rw [h.newest, ← hS, hnx]; omega
  have hhead : head s = (let r := s.2.write (s.1.first : Int) (LeafM.page ⟨S, 0, 0, []⟩); if r.2 ≠ 0 then (({ s.1 with stamp := S }, r.1), r.2) else (({ s.1 with stamp := S }, r.1.sync.1), r.1.sync.2)) := by
    unfold head; rw [hS]
  rcases puts_any h.dd hw h.row { s.1 with stamp := S, end' := 0 } 0 [] 1 (by show s.1.first + 0 + 1 ≤ _; omega) with ⟨d1, d', q1, q2, q3, q4, q5, q6, q7, q8⟩ | ⟨q0, d', q1, q2, m, q3, q4, q5⟩
  · left
    change ∀ j, d'.seen j = if s.1.first + 0 ≤ j ∧ j < s.1.first + 0 + 1 then LeafM.page ⟨S, _, 0, part [] _⟩ else _ at q8
    have hpages : seenPages d' s.1.first s.1.n = headPages (seenPages s.2 s.1.first s.1.n) S := by
      refine seenPages_ext (by rw [length_headPages, length_seenPages]) fun j hj => ?_
      rw [q8, headPages]
      by_cases h0 : j = 0
      · subst h0
        rw [List.getElem?_set_self (by rw [length_seenPages]; omega), if_pos (by omega), part_nil]
        simp
      · rw [List.getElem?_set_ne (by omega), if_neg (by omega), get_seenPages _ _ _ _ hj]
    have hofp := ofPages_head (f := s.1.first) (S := S) hnew (by rw [length_seenPages]; omega)
    rw [length_seenPages, ← hpages] at hofp
    refine ⟨d', ?_, ⟨q3, q4, ⟨?_, by show s.1.first + s.1.n ≤ d'.pages.length; omega, hn2, q5⟩, ?_⟩, ⟨q6, fun j hj => ?_⟩, q7⟩
    · rw [hput] at q1
      rw [hhead, hS]
      revert q1
      generalize s.2.write (s.1.first : Int) (LeafM.page ⟨S, 0, 0, []⟩) = r
      intro q1
      by_cases hr : r.2 = 0
      · simp only [hr, ne_eq, not_true_eq_false, if_false, Prod.mk.injEq, and_true] at q1
        simp only [hr, ne_eq, not_true_eq_false, if_false, q1, q2]
      · simp only [ne_eq, hr, not_false_eq_true, if_true] at q1
        rw [q1] at hr; exact (hr rfl).elim
    · show reheaded s.1 = ofPages s.1.first (seenPages d' s.1.first s.1.n)
      rw [hofp, reheaded, hS, h.ld]
    · intro j hj
      change j < s.1.n at hj
      show PageOk _ (d'.seen (s.1.first + j))
      rw [q8]
      split
      · exact pageOk_page (by rw [part_nil]; simp) (by show S.toNat ≤ _; rw [← hS, hnx]; omega)
      · exact (h.pg j hj).mono (by omega)
    · rw [q8, if_neg (by omega)]
  · right
    have hrl : d'.row.length ≤ 4096 := by rw [q5]; simp only [List.length_map, List.length_range]; have := hw.2.1; omega
    refine ⟨q0, d', ?_, q2, hrl, fun fates => ?_⟩
    · rw [hhead, hS]
      simp only [hput] at q1
      revert q1
      generalize s.2.write (s.1.first : Int) (LeafM.page ⟨S, 0, 0, []⟩) = r
      intro q1
      by_cases hr : r.2 = 0
      · simp only [hr, ne_eq, not_true_eq_false, if_false, Prod.mk.injEq, and_true] at q1
        rcases q1 with ⟨-, q1⟩ | ⟨d1, q1, q1'⟩
        · cases q1
        · simp only [hr, ne_eq, not_true_eq_false, if_false, q1, q1']
      · simp only [ne_eq, hr, not_false_eq_true, if_true] at q1
        rcases q1 with q1 | ⟨d1, q1, -⟩
        · rw [q1]; simp
        · rw [q1] at hr; exact (hr rfl).elim
    · obtain ⟨t1, t2, t3, t4, t5, t6⟩ := torn_any hw h.row q4 (s.1.first + 0) m _ (fun t => LeafM.length_page (length_part _ _)) q5 (by omega) fates
      simp only [part_nil] at t6
      have hseen : ∀ j, j < s.1.n → ((d'.restart fates).seen (s.1.first + j) = s.2.seen (s.1.first + j) ∨ j = 0 ∧ ((d'.restart fates).seen s.1.first = LeafM.page ⟨S, 0, 0, []⟩ ∨ (saidL ((d'.restart fates).seen s.1.first)).2 = false)) ∧ PageOk (K + 256) ((d'.restart fates).seen (s.1.first + j)) := by
        intro j hj
        rw [t6 (s.1.first + j)]
        split
        · rename_i hc
          obtain rfl : j = 0 := by omega
          have hm0 : 0 < m := by omega
          have ht := torn_page (K := s.1.stamp.toNat) ⟨S, 0, 0, []⟩ (by simp) (by show _ < S.toNat; rw [← hS, hnx]; omega) (by show S.toNat < _; rw [← hS, hnx]; omega) (h.page hj) (DiskM.fate fates 0)
          have e0 := t6 s.1.first
          rw [if_pos (by omega)] at e0
          simp only [Nat.add_zero, Nat.sub_self] at e0 ht ⊢
          rw [e0]
          obtain ⟨ht1, ht2⟩ := ht
          refine ⟨?_, ht2.mono (by show S.toNat + 255 ≤ _; rw [← hS, hnx]; omega)⟩
          rcases ht1 with ht1 | ht1 | ht1
          · exact .inl ht1
          · exact .inr ⟨trivial, .inl ht1⟩
          · exact .inr ⟨trivial, .inr ht1⟩
        · exact ⟨.inl rfl, (h.pg j hj).mono (by omega)⟩
      refine ⟨good_back t1 t2 t3 (by omega) hn2 (fun j hj => (hseen j hj).2), t4, ⟨t5, fun j hj => by rw [t6, if_neg (by omega)]⟩, ?_⟩
      have hrec := ofPages_torn_head (f := s.1.first) (pages := seenPages s.2 s.1.first s.1.n) (pages' := seenPages (d'.restart fates) s.1.first s.1.n) (S := S) hnew
        (fun j hj => by
          by_cases hjn : j < s.1.n
          · rw [get_seenPages _ _ _ _ hjn, get_seenPages _ _ _ _ hjn, t6, if_neg (by omega)]
          · rw [seen_none (by omega), seen_none (by omega)])
        (by
          rw [get_seenPages _ _ _ _ (by omega), get_seenPages _ _ _ _ (by omega)]
          rcases (hseen 0 (by omega)).1 with hx | ⟨-, hx | hx⟩
          · exact .inl (by rw [hx])
          · exact .inr (.inl (by rw [Nat.add_zero, hx]))
          · exact .inr (.inr ⟨_, by rw [Nat.add_zero], hx⟩))
      rw [← h.fine.1] at hrec
      exact hrec
/-- The log with one more record. -/
def recorded (l : LogM) (b : List UInt8) : LogM := { l with stamp := l.stamp + 1#64, records := l.records ++ [b], end' := l.end' + many b }
theorem step3_cases {K : Nat} {s : LogM × DiskM} (h : Good K s) (hh : s.1.headed = true) (hK : K + 1 < 65536) (b : List UInt8) (hm : many b ≤ s.1.n - s.1.end') :
    (∃ d', step3 b s = (({ s.1 with stamp := s.1.stamp + 1#64 }, d'), 0) ∧ Good (K + 1) (recorded s.1 b, d') ∧ Oth s.1.first s.1.n s.2 d' ∧ (s.2.left < 0 → d'.left = s.2.left)) ∨
    (0 ≤ s.2.left ∧ ∃ d', step3 b s = (({ s.1 with stamp := s.1.stamp + 1#64 }, d'), 9) ∧ d'.dead = true ∧ d'.row.length ≤ 4096 ∧ ∀ fates, Back (K + 256) s.1.first s.1.n s.2 (d'.restart fates) s.1.records (s.1.records ++ [b])) := by
  have hfit := h.fine.2.1
  have hn2 := h.fine.2.2.1
  have hw := h.fine.2.2.2
  have hst := h.stamp_le
  have hnx := h.next (by omega)
  have hend := h.ends
  have hmp := many_pos b
  have h4096 := hw.2.1
  obtain ⟨S, hS⟩ : ∃ S, s.1.stamp + 1#64 = S := ⟨_, rfl⟩
  have hnew : (LogM.newest (seenPages s.2 s.1.first s.1.n)).toNat < S.toNat := by rw [h.newest, ← hS, hnx]; omega
  have hofs : (ofPages s.1.first (seenPages s.2 s.1.first s.1.n)).headed = true := by rw [← h.fine.1]; exact hh
  have hofe : (ofPages s.1.first (seenPages s.2 s.1.first s.1.n)).end' = s.1.end' := by rw [← h.fine.1]
  have hofr : (ofPages s.1.first (seenPages s.2 s.1.first s.1.n)).records = s.1.records := by rw [← h.fine.1]
  rcases puts_any h.dd hw h.row { s.1 with stamp := S } (many b) b (many b) (by show s.1.first + s.1.end' + many b ≤ _; omega) with ⟨d1, d', q1, q2, q3, q4, q5, q6, q7, q8⟩ | ⟨q0, d', q1, q2, m, q3, q4, q5⟩
  · left
    change ∀ j, d'.seen j = if s.1.first + s.1.end' ≤ j ∧ j < s.1.first + s.1.end' + many b then LeafM.page ⟨S, j - (s.1.first + s.1.end'), many b, part b _⟩ else _ at q8
    have hpages : seenPages d' s.1.first s.1.n = putPages (seenPages s.2 s.1.first s.1.n) s.1.end' S b := by
      refine seenPages_ext (by rw [length_putPages, length_seenPages]) fun j hj => ?_
      rw [q8, get_putPages, length_seenPages, if_pos hj]
      by_cases hc : s.1.end' ≤ j ∧ j < s.1.end' + many b
      · rw [if_pos hc, if_pos (by omega), show s.1.first + j - (s.1.first + s.1.end') = j - s.1.end' from by omega]
      · rw [if_neg hc, if_neg (by omega), get_seenPages _ _ _ _ hj]
    have hofp := ofPages_put (f := s.1.first) (S := S) (b := b) hofs hnew (by omega) (by rw [hofe, length_seenPages]; omega)
    rw [hofe, hofr, length_seenPages, ← hpages] at hofp
    refine ⟨d', ?_, ⟨q3, q4, ⟨?_, by show s.1.first + s.1.n ≤ d'.pages.length; omega, hn2, q5⟩, ?_⟩, ⟨q6, fun j hj => ?_⟩, q7⟩
    · unfold step3
      rw [hS]
      simp only [q1, ne_eq, not_true_eq_false, if_false, q2]
    · show recorded s.1 b = ofPages s.1.first (seenPages d' s.1.first s.1.n)
      rw [hofp, recorded, hS, h.ld, hh]
    · intro j hj
      change j < s.1.n at hj
      show PageOk _ (d'.seen (s.1.first + j))
      rw [q8]
      split
      · exact pageOk_page (length_part _ _) (by show S.toNat ≤ _; rw [← hS, hnx]; omega)
      · exact (h.pg j hj).mono (by omega)
    · rw [q8, if_neg (by omega)]
  · right
    have hrl : d'.row.length ≤ 4096 := by rw [q5]; simp only [List.length_map, List.length_range]; have := hw.2.1; omega
    refine ⟨q0, d', ?_, q2, hrl, fun fates => ?_⟩
    · unfold step3
      rw [hS]
      rcases q1 with q1 | ⟨d1, q1, q1'⟩
      · simp only [q1]; simp
      · simp only [q1, ne_eq, not_true_eq_false, if_false, q1']
    · obtain ⟨t1, t2, t3, t4, t5, t6⟩ := torn_any hw h.row q4 (s.1.first + s.1.end') m _ (fun t => LeafM.length_page (length_part _ _)) q5 (by omega) fates
      have hseen : ∀ j, j < s.1.n → ((d'.restart fates).seen (s.1.first + j) = s.2.seen (s.1.first + j) ∨ (s.1.end' ≤ j ∧ j < s.1.end' + many b) ∧ ((d'.restart fates).seen (s.1.first + j) = LeafM.page ⟨S, j - s.1.end', many b, part b (j - s.1.end')⟩ ∨ (saidL ((d'.restart fates).seen (s.1.first + j))).2 = false)) ∧ PageOk (K + 256) ((d'.restart fates).seen (s.1.first + j)) := by
        intro j hj
        rw [t6 (s.1.first + j)]
        split
        · rename_i hc
          rw [show s.1.first + j - (s.1.first + s.1.end') = j - s.1.end' from by omega]
          have ht := torn_page (K := s.1.stamp.toNat) ⟨S, j - s.1.end', many b, part b (j - s.1.end')⟩ (length_part _ _) (by show _ < S.toNat; rw [← hS, hnx]; omega) (by show S.toNat < _; rw [← hS, hnx]; omega) (h.page hj) (DiskM.fate fates (j - s.1.end'))
          obtain ⟨ht1, ht2⟩ := ht
          refine ⟨?_, ht2.mono (by show S.toNat + 255 ≤ _; rw [← hS, hnx]; omega)⟩
          rcases ht1 with ht1 | ht1 | ht1
          · exact .inl ht1
          · exact .inr ⟨by omega, .inl ht1⟩
          · exact .inr ⟨by omega, .inr ht1⟩
        · exact ⟨.inl rfl, (h.pg j hj).mono (by omega)⟩
      refine ⟨good_back t1 t2 t3 (by omega) hn2 (fun j hj => (hseen j hj).2), t4, ⟨t5, fun j hj => by rw [t6, if_neg (by omega)]⟩, ?_⟩
      have hrec := ofPages_torn (f := s.1.first) (pages := seenPages s.2 s.1.first s.1.n) (pages' := seenPages (d'.restart fates) s.1.first s.1.n) (S := S) (b := b) hofs hnew (by omega)
        (fun j hj => by
          rw [hofe] at hj
          by_cases hjn : j < s.1.n
          · rw [get_seenPages _ _ _ _ hjn, get_seenPages _ _ _ _ hjn, t6, if_neg (by omega)]
          · rw [seen_none (by omega), seen_none (by omega)])
        (fun i hi => by
          rw [hofe, get_seenPages _ _ _ _ (by omega), get_seenPages _ _ _ _ (by omega)]
          refine ⟨_, rfl, ?_⟩
          rcases (hseen (s.1.end' + i) (by omega)).1 with hx | ⟨-, hx | hx⟩
          · exact .inl (by rw [hx])
          · exact .inr (.inl (by rw [hx, Nat.add_sub_cancel_left]))
          · exact .inr (.inr hx))
      rw [hofr] at hrec
      exact hrec
/-- What Commit may come to. -/
theorem commit_cases {K : Nat} {s : LogM × DiskM} (h : Good K s) (hK : K + 2 < 65536) (b : List UInt8) :
    (s.1.n - s.1.end' < many b ∧ commit b s = (s, 4)) ∨
    (many b ≤ s.1.n - s.1.end' ∧ ∃ s', commit b s = (s', 0) ∧ Good (K + 2) s' ∧ s'.1.records = s.1.records ++ [b] ∧ s'.1.end' = s.1.end' + many b ∧ s'.1.n = s.1.n ∧ s'.1.first = s.1.first ∧ Oth s.1.first s.1.n s.2 s'.2 ∧ (s.2.left < 0 → s'.2.left = s.2.left)) ∨
    (0 ≤ s.2.left ∧ ∃ s', commit b s = (s', 9) ∧ s'.1.dead = true ∧ s'.2.dead = true ∧ s'.2.row.length ≤ 4096 ∧ s'.1.n = s.1.n ∧ s'.1.first = s.1.first ∧ ∀ fates, Back (K + 257) s.1.first s.1.n s.2 (s'.2.restart fates) s.1.records (s.1.records ++ [b])) := by
  by_cases hm : s.1.n - s.1.end' < many b
  · exact .inl ⟨hm, commit_full h.ld h.dd b hm⟩
  right
  have hstep1 : step1 b s = (s, 0) := by unfold step1; rw [if_neg hm]
  have hcom : commit b s = steps [step2, step3 b, step4 b] s := by
    unfold commit alive
    rw [h.ld, h.dd]
    simp only [Bool.or_self, Bool.false_eq_true, if_false]
    rw [steps, hstep1]; simp
  rw [hcom]
  have h2 : (∃ s2, step2 s = (s2, 0) ∧ Good (K + 1) s2 ∧ s2.1.headed = true ∧ s2.1.records = s.1.records ∧ s2.1.end' = s.1.end' ∧ s2.1.n = s.1.n ∧ s2.1.first = s.1.first ∧ Oth s.1.first s.1.n s.2 s2.2 ∧ (s.2.left < 0 → s2.2.left = s.2.left)) ∨
      (0 ≤ s.2.left ∧ ∃ s', step2 s = (s', 9) ∧ s'.2.dead = true ∧ s'.2.row.length ≤ 4096 ∧ s'.1.n = s.1.n ∧ s'.1.first = s.1.first ∧ ∀ fates, Back (K + 256) s.1.first s.1.n s.2 (s'.2.restart fates) s.1.records s.1.records) := by
    unfold step2
    cases hh : s.1.headed with
    | true =>
      left
      refine ⟨s, by simp, ⟨h.dd, h.row, h.fine, fun j hj => (h.pg j hj).mono (by omega)⟩, hh, rfl, rfl, rfl, rfl, Oth.refl _ _ _, fun _ => rfl⟩
    | false =>
      have hraw : s.1.records = [] ∧ s.1.end' = 1 := by
        have hh' : isHead (leavesOf (seenPages s.2 s.1.first s.1.n)) = false := by
          have := congrArg LogM.headed h.fine.1
          rw [hh] at this; exact this.symm
        rw [h.fine.1]
        refine ⟨?_, ?_⟩
        · show (if isHead _ then _ else _) = _; rw [hh']; rfl
        · show (if isHead _ then _ else _) = _; rw [hh']; rfl
      rcases head_cases h (by omega) with ⟨d', q1, q2, q3, q4⟩ | ⟨q0, d', q1, q2, qr, q3⟩
      · left
        refine ⟨(reheaded s.1, d'), ?_, q2, rfl, hraw.1.symm, hraw.2.symm, rfl, rfl, q3, q4⟩
        simp only [Bool.false_eq_true, if_false, q1, beq_self_eq_true]
        rw [reheaded, ← hraw.1, ← hraw.2]
      · right
        refine ⟨q0, ({ s.1 with stamp := s.1.stamp + 1#64, headed := false }, d'), by simp only [Bool.false_eq_true, if_false, q1]; rfl, q2, qr, rfl, rfl, fun fates => ?_⟩
        have := q3 fates
        rw [hraw.1] at this ⊢
        exact this
  rcases h2 with ⟨s2, e2, g2, hh2, r2, d2, n2, f2, o2, l2⟩ | ⟨q0, s', e2, g2, qr2, n2, f2, b2⟩
  · rw [steps, e2]
    simp only [ne_eq, not_true_eq_false, if_false]
    rcases step3_cases g2 hh2 (by omega) b (by rw [n2, d2]; omega) with ⟨d', q1, q2, q3, q4⟩ | ⟨q0, d', q1, q2, qr3, q3⟩
    · left
      refine ⟨by omega, (recorded s2.1 b, d'), ?_, q2, ?_, ?_, n2, f2, ?_, fun hl => ?_⟩
      · rw [steps, q1]
        simp [steps, step4, recorded]
      · show s2.1.records ++ [b] = _; rw [r2]
      · show s2.1.end' + many b = _; rw [d2]
      · rw [n2, f2] at q3; exact o2.trans q3
      · exact (q4 (by rw [l2 hl]; exact hl)).trans (l2 hl)
    · right
      refine ⟨?_, ({ s2.1 with stamp := s2.1.stamp + 1#64, dead := true }, d'), ?_, rfl, q2, qr3, n2, f2, fun fates => ?_⟩
      · by_cases hl : s.2.left < 0
        · rw [l2 hl] at q0; omega
        · omega
      · rw [steps, q1]; simp
      · have := q3 fates
        rw [n2, f2, r2] at this
        exact ⟨this.good, this.left, o2.trans this.oth, this.recs⟩
  · right
    refine ⟨q0, ({ s'.1 with dead := true }, s'.2), ?_, rfl, g2, qr2, n2, f2, fun fates => ?_⟩
    · rw [steps, e2]; simp
    · have := b2 fates
      refine ⟨⟨this.good.dd, this.good.row, this.good.fine, fun j hj => (this.good.pg j hj).mono (by omega)⟩, this.left, this.oth, ?_⟩
      rcases this.recs with hx | hx <;> exact .inl hx
/-- What Reset may come to. -/
theorem reset_cases {K : Nat} {s : LogM × DiskM} (h : Good K s) (hK : K + 1 < 65536) :
    (∃ s', reset s = (s', 0) ∧ Good (K + 1) s' ∧ s'.1.records = [] ∧ s'.1.end' = 1 ∧ s'.1.n = s.1.n ∧ s'.1.first = s.1.first ∧ Oth s.1.first s.1.n s.2 s'.2 ∧ (s.2.left < 0 → s'.2.left = s.2.left)) ∨
    (0 ≤ s.2.left ∧ ∃ s', reset s = (s', 9) ∧ s'.1.dead = true ∧ s'.2.dead = true ∧ s'.2.row.length ≤ 4096 ∧ s'.1.n = s.1.n ∧ s'.1.first = s.1.first ∧ ∀ fates, Back (K + 256) s.1.first s.1.n s.2 (s'.2.restart fates) s.1.records []) := by
  unfold reset alive
  rw [h.ld, h.dd]
  simp only [Bool.or_self, Bool.false_eq_true, if_false]
  rcases head_cases h hK with ⟨d', q1, q2, q3, q4⟩ | ⟨q0, d', q1, q2, qr, q3⟩
  · left
    refine ⟨(reheaded s.1, d'), ?_, q2, rfl, rfl, rfl, rfl, q3, q4⟩
    rw [steps, q1]; simp [steps, reset2, reheaded]
  · right
    refine ⟨q0, ({ s.1 with stamp := s.1.stamp + 1#64, dead := true }, d'), ?_, rfl, q2, qr, rfl, rfl, q3⟩
    rw [steps, q1]; simp
/-- Another part of the disk. -/
theorem Good.oth {K f n : Nat} {s : LogM × DiskM} {d' : DiskM} (h : Good K s) (ho : Oth f n s.2 d') (hd : d'.dead = false) (hr : d'.row = []) (hw : d'.wf) (hap : s.1.first + s.1.n ≤ f ∨ f + n ≤ s.1.first) : Good K (s.1, d') := by
  have hs : ∀ j, j < s.1.n → d'.seen (s.1.first + j) = s.2.seen (s.1.first + j) := fun j hj => ho.2 _ (by omega)
  refine ⟨hd, hr, ⟨?_, by show _ ≤ d'.pages.length; rw [ho.1]; exact h.fine.2.1, h.fine.2.2.1, hw⟩, fun j hj => ?_⟩
  · show s.1 = ofPages s.1.first (seenPages d' s.1.first s.1.n)
    have : seenPages d' s.1.first s.1.n = seenPages s.2 s.1.first s.1.n := seenPages_ext (length_seenPages _ _ _) fun j hj => by rw [get_seenPages _ _ _ _ hj, hs j hj]
    rw [this]; exact h.fine.1
  · show PageOk K (d'.seen (s.1.first + j))
    rw [hs j hj]; exact h.pg j hj
end LogM
end Go.Proofs.YtfgggkheadfiaaaR
