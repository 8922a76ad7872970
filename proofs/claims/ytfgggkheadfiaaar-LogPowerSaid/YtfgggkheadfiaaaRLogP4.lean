/- Plain laws: a log's acts while the power stays. No program in sight. -/
import Derived.Test.YtfgggkheadfiaaaRLogP3
namespace Go.Proofs.YtfgggkheadfiaaaR
open Go Go.RowKit

theorem DiskM.length_donePages (f : Nat → Nat) (pages : List (List UInt8)) (row : List (Nat × List UInt8)) : (DiskM.donePages f pages row).length = pages.length := by
  have h1 : ∀ (l : List ((Nat × List UInt8) × Nat)) (ps : List (List UInt8)), (l.foldl (DiskM.doneOne f) ps).length = ps.length := by
    intro l
    induction l with
    | nil => intro ps; rfl
    | cons x r ih => intro ps; rw [List.foldl_cons, ih]; simp [DiskM.doneOne]
  exact h1 _ _
namespace LogM
/-- Power on, no countdown, nothing under way. -/
structure Up (s : LogM × DiskM) : Prop where
  ld : s.1.dead = false
  dd : s.2.dead = false
  left : s.2.left < 0
  fit : s.1.first + s.1.n ≤ s.2.pages.length
  n2 : 2 ≤ s.1.n
  e1 : 1 ≤ s.1.end'
  en : s.1.end' ≤ s.1.n
  row : s.2.row = []
/-- A disk that stands as another, but for what its pages hold. -/
def Like (d d' : DiskM) : Prop := d'.dead = d.dead ∧ d'.left = d.left ∧ d'.row = [] ∧ d'.pages.length = d.pages.length
theorem sync_up {d : DiskM} (hd : d.dead = false) (hl : d.left < 0) (hp : 0 < d.pages.length) : (d.sync).2 = 0 ∧ Like d d.sync.1 := by
  rw [DiskM.sync_in hd hp, if_neg (by omega)]
  refine ⟨rfl, ?_, ?_, rfl, ?_⟩
  · exact (DiskM.tick_same d).2.2
  · exact (DiskM.tick_left d).1 hl
  · show (DiskM.donePages _ d.tick.pages d.tick.row).length = _
    rw [DiskM.length_donePages, (DiskM.tick_same d).1]
theorem head_up {s : LogM × DiskM} (h : Up s) : ∃ d', head s = (({ s.1 with stamp := s.1.stamp + 1#64 }, d'), 0) ∧ Like s.2 d' := by
  obtain ⟨l, d⟩ := s
  obtain ⟨h1, h2, h3, h4, h5, h6, h7, h8⟩ := h
  simp only at h1 h2 h3 h4 h5 h6 h7 h8
  have hw := DiskM.write_in h2 (j := l.first) (by omega) (l := LeafM.page ⟨l.stamp + 1#64, 0, 0, []⟩) (LeafM.length_page (by simp))
  rw [if_neg (by omega)] at hw
  obtain ⟨t1, t2, t3⟩ := DiskM.tick_same d
  obtain ⟨d1, hd1⟩ : ∃ d1 : DiskM, { d.tick with row := d.row ++ [(l.first, LeafM.page ⟨l.stamp + 1#64, 0, 0, []⟩)] } = d1 := ⟨_, rfl⟩
  have hw' : d.write (l.first : Int) (LeafM.page ⟨l.stamp + 1#64, 0, 0, []⟩) = (d1, 0) := by rw [hw, ← hd1]
  have e1 : d1.dead = d.dead := by rw [← hd1]; exact t3
  have e2 : d1.left = d.left := by rw [← hd1]; exact (DiskM.tick_left d).1 h3
  have e3 : d1.pages.length = d.pages.length := by rw [← hd1]; exact congrArg List.length t1
  have hs := sync_up (d := d1) (e1.trans h2) (by omega) (by omega)
  refine ⟨d1.sync.1, ?_, ?_⟩
  · unfold head
    simp only [hw']
    rw [if_neg (by simp), hs.1]
  · obtain ⟨hs0, q1, q2, q3, q4⟩ := hs
    exact ⟨q1.trans e1, q2.trans e2, q3, q4.trans e3⟩
theorem put_up (l : LogM) (of' : Nat) (b : List UInt8) (k i : Nat) (d : DiskM) (hd : d.dead = false) (hl : d.left < 0) (hf : l.first + l.end' + i + k ≤ d.pages.length) :
    ∃ d', put l of' b k i d = (d', 0) ∧ d'.dead = false ∧ d'.left = d.left ∧ d'.pages.length = d.pages.length := by
  obtain ⟨m, d', q1, q2, q3, q4, q5, q6, q7⟩ := put_any l l.stamp rfl of' b k i d hd hf
  obtain ⟨hm, hl'⟩ := q6 hl
  subst hm
  exact ⟨d', by rw [q2, if_pos rfl], by rw [q5]; simp, hl', congrArg List.length q3⟩
theorem step3_up {s : LogM × DiskM} (h : Up s) (b : List UInt8) (hm : many b ≤ s.1.n - s.1.end') : ∃ d', step3 b s = (({ s.1 with stamp := s.1.stamp + 1#64 }, d'), 0) ∧ Like s.2 d' := by
  obtain ⟨l, d⟩ := s
  obtain ⟨h1, h2, h3, h4, h5, h6, h7, h8⟩ := h
  simp only at h1 h2 h3 h4 h5 h6 h7 h8 hm
  have hmp := many_pos b
  obtain ⟨d', hp, p1, p2, p3⟩ := put_up { l with stamp := l.stamp + 1#64 } (many b) b (many b) 0 d h2 h3 (by show l.first + l.end' + 0 + many b ≤ _; omega)
  have hs := sync_up (d := d') p1 (by omega) (by omega)
  refine ⟨d'.sync.1, ?_, ?_⟩
  · unfold step3
    simp only [hp]
    rw [if_neg (by simp), hs.1]
  · obtain ⟨hs0, q1, q2, q3, q4⟩ := hs
    exact ⟨q1.trans (p1.trans h2.symm), q2.trans p2, q3, q4.trans p3⟩
theorem commit_full {s : LogM × DiskM} (h1 : s.1.dead = false) (h2 : s.2.dead = false) (b : List UInt8) (hm : s.1.n - s.1.end' < many b) : commit b s = (s, 4) := by
  unfold commit alive
  rw [h1, h2]
  simp only [Bool.or_self, Bool.false_eq_true, if_false, steps, step1, if_pos hm, h1]
  obtain ⟨l, d⟩ := s
  cases l
  simp only at h1
  subst h1
  simp
theorem Up.like {s s' : LogM × DiskM} (h : Up s) (h1 : s'.1.dead = false) (hL : Like s.2 s'.2) (h2 : s'.1.n = s.1.n) (h3 : s'.1.first = s.1.first) (h4 : 1 ≤ s'.1.end') (h5 : s'.1.end' ≤ s.1.n) : Up s' := by
  obtain ⟨a1, a2, a3, a4, a5, a6, a7, a8⟩ := h
  obtain ⟨l1, l2, l3, l4⟩ := hL
  exact ⟨h1, by rw [l1]; exact a2, by rw [l2]; exact a3, by rw [h2, h3, l4]; exact a4, by rw [h2]; exact a5, h4, by rw [h2]; exact h5, l3⟩
theorem commit_up {s : LogM × DiskM} (h : Up s) (b : List UInt8) (hm : many b ≤ s.1.n - s.1.end') :
    ∃ s', commit b s = (s', 0) ∧ Up s' ∧ s'.1.records = s.1.records ++ [b] ∧ s'.1.end' = s.1.end' + many b ∧ s'.1.n = s.1.n ∧ s'.1.first = s.1.first ∧ s'.2.pages.length = s.2.pages.length := by
  obtain ⟨s2, hs2, hU2, e1, e2, e3, e4, e5⟩ : ∃ s2, step2 s = (s2, 0) ∧ Up s2 ∧ s2.1.records = s.1.records ∧ s2.1.end' = s.1.end' ∧ s2.1.n = s.1.n ∧ s2.1.first = s.1.first ∧ s2.2.pages.length = s.2.pages.length := by
    unfold step2
    cases hh : s.1.headed with
    | true => exact ⟨s, by simp, h, rfl, rfl, rfl, rfl, rfl⟩
    | false =>
      obtain ⟨d', hd', hL⟩ := head_up h
      refine ⟨({ s.1 with stamp := s.1.stamp + 1#64, headed := true }, d'), ?_, ?_, rfl, rfl, rfl, rfl, hL.2.2.2⟩
      · simp [hd']
      · exact h.like h.ld hL rfl rfl h.e1 h.en
  have hmp := many_pos b
  obtain ⟨d', hs3, hL⟩ := step3_up hU2 b (by rw [e2, e3]; exact hm)
  refine ⟨({ s2.1 with stamp := s2.1.stamp + 1#64, records := s2.1.records ++ [b], end' := s2.1.end' + many b }, d'), ?_, ?_, ?_, ?_, e3, e4, ?_⟩
  · unfold commit alive
    rw [h.ld, h.dd]
    simp only [Bool.or_self, Bool.false_eq_true, if_false, steps]
    have h1 : step1 b s = (s, 0) := by unfold step1; rw [if_neg (by omega)]
    rw [h1]
    simp only [ne_eq, not_true_eq_false, if_false]
    rw [hs2]
    simp only [not_true_eq_false, if_false]
    rw [hs3]
    simp [step4]
  · refine hU2.like hU2.ld hL rfl rfl ?_ ?_
    · show 1 ≤ s2.1.end' + many b; omega
    · show s2.1.end' + many b ≤ s2.1.n; rw [e2, e3]; have := h.en; omega
  · show s2.1.records ++ [b] = _; rw [e1]
  · show s2.1.end' + many b = _; rw [e2]
  · exact hL.2.2.2.trans e5
theorem reset_up {s : LogM × DiskM} (h : Up s) : ∃ s', reset s = (s', 0) ∧ Up s' ∧ s'.1.records = [] ∧ s'.1.end' = 1 ∧ s'.1.n = s.1.n ∧ s'.1.first = s.1.first ∧ s'.2.pages.length = s.2.pages.length := by
  obtain ⟨d', hd', hL⟩ := head_up h
  refine ⟨({ s.1 with stamp := s.1.stamp + 1#64, headed := true, records := [], end' := 1 }, d'), ?_, ?_, rfl, rfl, rfl, rfl, hL.2.2.2⟩
  · unfold reset alive
    rw [h.ld, h.dd]
    simp only [Bool.or_self, Bool.false_eq_true, if_false, steps, hd']
    simp [reset2]
  · exact h.like h.ld hL rfl rfl (Nat.le_refl _) (by have := h.n2; show 1 ≤ s.1.n; omega)
end LogM
end Go.Proofs.YtfgggkheadfiaaaR
