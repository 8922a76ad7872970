/- Plain laws: which records pages tell, and what becomes of them where a record, or a head, is put. No program in sight. -/
import Derived.Test.YtfgggkheadfiaaaRLogP1
namespace Go.Proofs.YtfgggkheadfiaaaR
open Go Go.RowKit
namespace LogM

theorem run_spec (X : BitVec 64) (k : Nat) : ∀ (l : List LeafM) (i : Nat), run X k i l = true ↔ ∀ j y, l[j]? = some y → y.stamp = X ∧ y.at' = i + j ∧ y.of' = k
  | [], i => by simp [run]
  | x :: r, i => by
    simp only [run, Bool.and_eq_true, beq_iff_eq, run_spec X k r (i + 1)]
    constructor
    · rintro ⟨⟨⟨h1, h2⟩, h3⟩, h4⟩ j y hy
      cases j with
      | zero => simp only [List.getElem?_cons_zero, Option.some.injEq] at hy; subst hy; exact ⟨h1, by omega, h3⟩
      | succ j => obtain ⟨a, b, c⟩ := h4 j y (by simpa using hy); exact ⟨a, by omega, c⟩
    · intro h
      obtain ⟨a, b, c⟩ := h 0 x rfl
      refine ⟨⟨⟨a, by omega⟩, c⟩, fun j y hy => ?_⟩
      obtain ⟨a, b, c⟩ := h (j + 1) y (by simpa using hy)
      exact ⟨a, by omega, c⟩

theorem get_part {α : Type} (l : List α) (e k j : Nat) : ((l.drop e).take k)[j]? = if j < k then l[e + j]? else none := by
  rw [List.getElem?_take]; split <;> simp

theorem accept_some {leaves : List LeafM} {e : Nat} {last X : BitVec 64} {k : Nat} {b : List UInt8} (h : accept leaves e last = some (k, X, b)) :
    1 ≤ k ∧ e + k ≤ leaves.length ∧ last.toNat < X.toNat ∧ (∀ i, i < k → ∃ y, leaves[e + i]? = some y ∧ y.stamp = X ∧ y.at' = i ∧ y.of' = k) ∧ b = ((leaves.drop e).take k).flatMap LeafM.bytes := by
  unfold accept at h
  split at h
  · cases h
  · rename_i x hx
    split at h
    · cases h
    · rename_i hc
      split at h
      · rename_i hr
        simp only [Option.some.injEq, Prod.mk.injEq] at h
        obtain ⟨rfl, rfl, rfl⟩ := h
        have he : e < leaves.length := (List.getElem?_eq_some_iff.1 hx).1
        refine ⟨by omega, by omega, by omega, ?_, rfl⟩
        intro i hi
        have hlt : e + i < leaves.length := by omega
        have := (run_spec _ _ _ 0).1 hr i leaves[e + i] (by rw [get_part, if_pos hi, List.getElem?_eq_getElem hlt])
        exact ⟨_, List.getElem?_eq_getElem hlt, this.1, by omega, this.2.2⟩
      · cases h
theorem accept_intro {leaves : List LeafM} {e : Nat} {last X : BitVec 64} {k : Nat} (h1 : 1 ≤ k) (h2 : e + k ≤ leaves.length) (h3 : last.toNat < X.toNat)
    (h4 : ∀ i, i < k → ∃ y, leaves[e + i]? = some y ∧ y.stamp = X ∧ y.at' = i ∧ y.of' = k) : accept leaves e last = some (k, X, ((leaves.drop e).take k).flatMap LeafM.bytes) := by
  obtain ⟨x, hx, e1, e2, e3⟩ := h4 0 (by omega)
  rw [Nat.add_zero] at hx
  unfold accept
  rw [hx]
  simp only
  rw [e1, e3, if_neg (by omega), if_pos]
  rw [run_spec]
  intro j y hy
  rw [get_part] at hy
  split at hy
  · rename_i hj
    obtain ⟨z, hz, q1, q2, q3⟩ := h4 j hj
    rw [hy] at hz
    simp only [Option.some.injEq] at hz
    subst hz
    exact ⟨q1, by omega, q3⟩
  · cases hy

theorem take_get {α : Type} {l l2 : List α} {m : Nat} (h : l2.take m = l.take m) {j : Nat} (hj : j < m) : l2[j]? = l[j]? := by
  have := congrArg (·[j]?) h
  simp only [List.getElem?_take, if_pos hj] at this
  exact this
theorem take_part {α : Type} {l l2 : List α} {m : Nat} (h : l2.take m = l.take m) {e k : Nat} (hj : e + k ≤ m) : (l2.drop e).take k = (l.drop e).take k := by
  apply List.ext_getElem?
  intro i
  rw [get_part, get_part]
  split
  · exact take_get h (by omega)
  · rfl
theorem accept_congr {leaves l2 : List LeafM} {e m : Nat} {last X : BitVec 64} {k : Nat} {b : List UInt8} (h : accept leaves e last = some (k, X, b)) (ht : l2.take m = leaves.take m) (hm : e + k ≤ m) (hl : m ≤ l2.length) :
    accept l2 e last = some (k, X, b) := by
  obtain ⟨h1, h2, h3, h4, rfl⟩ := accept_some h
  rw [accept_intro h1 (by omega) h3 (fun i hi => by rw [take_get ht (by omega)]; exact h4 i hi), take_part ht hm]

theorem readL_mono (leaves : List LeafM) : ∀ (f : Nat) (s : Nat × BitVec 64 × List (List UInt8)), s.1 ≤ (readL leaves f s).1 ∧ (s.1 ≤ leaves.length → (readL leaves f s).1 ≤ leaves.length)
  | 0, s => ⟨Nat.le_refl _, fun h => h⟩
  | f + 1, s => by
    unfold readL
    cases h : accept leaves s.1 s.2.1 with
    | none => exact ⟨Nat.le_refl _, fun h => h⟩
    | some r =>
      obtain ⟨k, X, b⟩ := r
      obtain ⟨h1, h2, _⟩ := accept_some h
      have := readL_mono leaves f (s.1 + k, X, s.2.2 ++ [b])
      exact ⟨by have := this.1; simp only at this ⊢; omega, fun _ => this.2 h2⟩
theorem readL_end (leaves : List LeafM) : ∀ (f : Nat) (s : Nat × BitVec 64 × List (List UInt8)), leaves.length - s.1 ≤ f → accept leaves (readL leaves f s).1 (readL leaves f s).2.1 = none
  | 0, s, hf => by
    unfold readL accept
    rw [List.getElem?_eq_none (by omega)]
  | f + 1, s, hf => by
    unfold readL
    cases h : accept leaves s.1 s.2.1 with
    | none => exact h
    | some r =>
      obtain ⟨k, X, b⟩ := r
      obtain ⟨h1, h2, _⟩ := accept_some h
      exact readL_end leaves f _ (by simp only; omega)
theorem readL_stop {leaves : List LeafM} {s : Nat × BitVec 64 × List (List UInt8)} (h : accept leaves s.1 s.2.1 = none) : ∀ f, readL leaves f s = s
  | 0 => rfl
  | f + 1 => by unfold readL; rw [h]
theorem readL_some {leaves : List LeafM} {s : Nat × BitVec 64 × List (List UInt8)} {r : Nat × BitVec 64 × List UInt8} (h : accept leaves s.1 s.2.1 = some r) (f : Nat) :
    readL leaves (f + 1) s = readL leaves f (s.1 + r.1, r.2.1, s.2.2 ++ [r.2.2]) := by
  conv => lhs; unfold readL
  rw [h]
theorem readL_prefix (leaves l2 : List LeafM) : ∀ (f f2 : Nat) (s : Nat × BitVec 64 × List (List UInt8)), l2.length - s.1 ≤ f2 → l2.take (readL leaves f s).1 = leaves.take (readL leaves f s).1 → (readL leaves f s).1 ≤ l2.length →
    ∃ f3, l2.length - (readL leaves f s).1 ≤ f3 ∧ readL l2 f2 s = readL l2 f3 (readL leaves f s)
  | 0, f2, s, h2, _, _ => ⟨f2, h2, rfl⟩
  | f + 1, f2, s, h2, ht, hl => by
    cases h : accept leaves s.1 s.2.1 with
    | none => rw [readL_stop h] at ht hl ⊢; exact ⟨f2, h2, rfl⟩
    | some r =>
      obtain ⟨k, X, b⟩ := r
      rw [readL_some h] at ht hl ⊢
      obtain ⟨h1, h3, _⟩ := accept_some h
      have hm := (readL_mono leaves f (s.1 + k, X, s.2.2 ++ [b])).1
      simp only at hm ht hl
      have hc := accept_congr h ht hm hl
      cases f2 with
      | zero => omega
      | succ f2 =>
        obtain ⟨f3, q1, q2⟩ := readL_prefix leaves l2 f f2 (s.1 + k, X, s.2.2 ++ [b]) (by simp only; omega) ht hl
        exact ⟨f3, q1, (readL_some hc f2).trans q2⟩
theorem readL_last (leaves : List LeafM) : ∀ (f : Nat) (s : Nat × BitVec 64 × List (List UInt8)) (m : Nat), s.2.1.toNat ≤ m → (∀ y ∈ leaves, y.stamp.toNat ≤ m) → (readL leaves f s).2.1.toNat ≤ m
  | 0, s, m, h, _ => h
  | f + 1, s, m, h, hy => by
    unfold readL
    cases hc : accept leaves s.1 s.2.1 with
    | none => exact h
    | some r =>
      obtain ⟨k, X, b⟩ := r
      obtain ⟨h1, h3, _, h4, _⟩ := accept_some hc
      refine readL_last leaves f _ m ?_ hy
      obtain ⟨y, hy1, hy2, _⟩ := h4 0 (by omega)
      rw [← hy2]
      exact hy y (List.mem_of_getElem? hy1)

/-! ### Leaves of pages -/
theorem takeWhile_get {α : Type} (p : α → Bool) : ∀ (l : List α) (j : Nat), j < (l.takeWhile p).length → (l.takeWhile p)[j]? = l[j]?
  | [], j, h => by simp at h
  | x :: r, j, h => by
    rw [List.takeWhile_cons] at h ⊢
    split at h
    · rename_i hx
      rw [if_pos hx]
      cases j with
      | zero => rfl
      | succ j => simp only [List.getElem?_cons_succ]; exact takeWhile_get p r j (by simpa using h)
    · simp at h
theorem lt_takeWhile {α : Type} (p : α → Bool) : ∀ (l : List α) (j : Nat), j < (l.takeWhile p).length ↔ ∀ i, i ≤ j → ∃ x, l[i]? = some x ∧ p x = true
  | [], j => by
    constructor
    · intro h; simp at h
    · intro h; obtain ⟨x, hx, _⟩ := h 0 (by omega); simp at hx
  | x :: r, j => by
    rw [List.takeWhile_cons]
    split
    · rename_i hx
      cases j with
      | zero =>
        constructor
        · intro _ i hi; obtain rfl : i = 0 := by omega
          exact ⟨x, rfl, hx⟩
        · intro _; simp
      | succ j =>
        simp only [List.length_cons, Nat.add_lt_add_iff_right, lt_takeWhile p r j]
        constructor
        · intro h i hi
          cases i with
          | zero => exact ⟨x, rfl, hx⟩
          | succ i => simpa using h i (by omega)
        · intro h i hi
          simpa using h (i + 1) (by omega)
    · rename_i hx
      constructor
      · intro h; simp at h
      · intro h
        obtain ⟨y, hy, hp⟩ := h 0 (by omega)
        simp only [List.getElem?_cons_zero, Option.some.injEq] at hy
        subst hy; exact absurd hp hx

theorem leaves_lt (pages : List (List UInt8)) (j : Nat) : j < (leavesOf pages).length ↔ ∀ i, i ≤ j → ∃ p, pages[i]? = some p ∧ (saidL p).2 = true := by
  unfold leavesOf; rw [List.length_map]; exact lt_takeWhile _ _ _
theorem leaves_get {pages : List (List UInt8)} {j : Nat} {y : LeafM} (h : (leavesOf pages)[j]? = some y) : ∃ p, pages[j]? = some p ∧ (saidL p).2 = true ∧ y = (saidL p).1 := by
  have hj : j < (leavesOf pages).length := (List.getElem?_eq_some_iff.1 h).1
  obtain ⟨p, hp, ho⟩ := (leaves_lt pages j).1 hj j (Nat.le_refl _)
  unfold leavesOf at h hj
  rw [List.length_map] at hj
  rw [List.getElem?_map, takeWhile_get _ _ _ hj, hp] at h
  simp only [Option.map_some, Option.some.injEq] at h
  exact ⟨p, hp, ho, h.symm⟩
theorem leaves_at {pages : List (List UInt8)} {j : Nat} {p : List UInt8} (hj : j < (leavesOf pages).length) (hp : pages[j]? = some p) : (leavesOf pages)[j]? = some (saidL p).1 := by
  obtain ⟨q, hq, _, e⟩ := leaves_get (List.getElem?_eq_getElem hj)
  rw [hp] at hq
  simp only [Option.some.injEq] at hq
  subst hq
  rw [List.getElem?_eq_getElem hj, e]
theorem leaves_agree {pages pages' : List (List UInt8)} {m : Nat} (h : ∀ j, j < m → pages'[j]? = pages[j]?) (hm : m ≤ (leavesOf pages).length) :
    m ≤ (leavesOf pages').length ∧ (leavesOf pages').take m = (leavesOf pages).take m := by
  have h1 : m ≤ (leavesOf pages').length := by
    cases m with
    | zero => omega
    | succ m =>
      have := (leaves_lt pages m).1 hm
      have : m < (leavesOf pages').length := (leaves_lt pages' m).2 fun i hi => by rw [h i (by omega)]; exact this i hi
      exact this
  refine ⟨h1, List.ext_getElem? fun j => ?_⟩
  rw [List.getElem?_take, List.getElem?_take]
  split
  · rename_i hj
    obtain ⟨p, hp, _⟩ := (leaves_lt pages j).1 (by omega) j (Nat.le_refl _)
    rw [leaves_at (by omega) hp, leaves_at (by omega) (by rw [h j hj]; exact hp)]
  · rfl

/-! ### The newest stamp -/
theorem umax_toNat (a b : BitVec 64) : (umax a b).toNat = max a.toNat b.toNat := by unfold umax; split <;> omega
theorem newest_foldl (pages : List (List UInt8)) : ∀ s : BitVec 64, (pages.foldl (fun s p => umax (umax s (num (p.take 8))) (num (p.drop 504))) s).toNat = pages.foldl (fun s p => max (max s (num (p.take 8)).toNat) (num (p.drop 504)).toNat) s.toNat := by
  induction pages with
  | nil => intro s; rfl
  | cons p r ih => intro s; simp only [List.foldl_cons]; rw [ih, umax_toNat, umax_toNat]
theorem newest_le {pages : List (List UInt8)} {m : Nat} : (newest pages).toNat ≤ m ↔ ∀ p ∈ pages, (num (p.take 8)).toNat ≤ m ∧ (num (p.drop 504)).toNat ≤ m := by
  unfold newest
  rw [newest_foldl]
  have : ∀ (pages : List (List UInt8)) (s : Nat), pages.foldl (fun s p => max (max s (num (p.take 8)).toNat) (num (p.drop 504)).toNat) s ≤ m ↔ s ≤ m ∧ ∀ p ∈ pages, (num (p.take 8)).toNat ≤ m ∧ (num (p.drop 504)).toNat ≤ m := by
    intro pages
    induction pages with
    | nil => intro s; simp
    | cons p r ih =>
      intro s
      simp only [List.foldl_cons, ih, List.mem_cons, forall_eq_or_imp]
      constructor
      · rintro ⟨a, b⟩; exact ⟨by omega, ⟨by omega, by omega⟩, b⟩
      · rintro ⟨a, ⟨b, c⟩, d⟩; exact ⟨by omega, d⟩
  rw [this]
  constructor
  · exact fun h => h.2
  · exact fun h => ⟨by simp, h⟩
theorem newest_ge {pages : List (List UInt8)} {p : List UInt8} (h : p ∈ pages) : (num (p.take 8)).toNat ≤ (newest pages).toNat ∧ (num (p.drop 504)).toNat ≤ (newest pages).toNat :=
  newest_le.1 (Nat.le_refl _) p h
theorem saidL_stamp {p : List UInt8} (h : (saidL p).2 = true) : (saidL p).1.stamp = num (p.take 8) := by
  rw [(saidL_true h).1]; rfl
theorem leaf_le {pages : List (List UInt8)} {y : LeafM} (h : y ∈ leavesOf pages) : y.stamp.toNat ≤ (newest pages).toNat := by
  obtain ⟨j, hj⟩ := List.mem_iff_getElem?.1 h
  obtain ⟨p, hp, ho, rfl⟩ := leaves_get hj
  rw [saidL_stamp ho]
  exact (newest_ge (List.mem_of_getElem? hp)).1
theorem headStamp_le (pages : List (List UInt8)) : (headStamp (leavesOf pages)).toNat ≤ (newest pages).toNat := by
  cases h : leavesOf pages with
  | nil => simp [headStamp]
  | cons x r => exact leaf_le (y := x) (by rw [h]; simp)

/-! ### A record is cut -/
theorem length_part (b : List UInt8) (i : Nat) : (part b i).length ≤ 480 := by simp only [part, List.length_take]; omega
theorem parts_take (b : List UInt8) : ∀ k : Nat, (List.range k).flatMap (part b) = b.take (480 * k)
  | 0 => by simp
  | k + 1 => by
    rw [List.range_succ, List.flatMap_append, parts_take b k]
    simp only [List.flatMap_cons, List.flatMap_nil, List.append_nil, part]
    rw [show 480 * (k + 1) = 480 * k + 480 from by omega, List.take_add]
theorem parts_all (b : List UInt8) : (List.range (many b)).flatMap (part b) = b := by
  rw [parts_take, List.take_of_length_le]
  unfold many; omega
theorem many_pos (b : List UInt8) : 1 ≤ many b := by unfold many; omega

theorem isHead_len {ls : List LeafM} (h : isHead ls = true) : 1 ≤ ls.length := by cases ls with
  | nil => cases h
  | cons x r => simp
theorem isHead_take {ls l2 : List LeafM} {m : Nat} (h : l2.take m = ls.take m) (hm : 1 ≤ m) : isHead l2 = isHead ls ∧ headStamp l2 = headStamp ls := by
  have := take_get h (j := 0) (by omega)
  cases ls with
  | nil => cases l2 with
    | nil => exact ⟨rfl, rfl⟩
    | cons y r => simp at this
  | cons x s => cases l2 with
    | nil => simp at this
    | cons y r =>
      simp only [List.getElem?_cons_zero, Option.some.injEq] at this
      subst this; exact ⟨rfl, rfl⟩

/-- What is told behind a record that was put, whole or in part. -/
theorem records_put {pages pages' : List (List UInt8)} {S : BitVec 64} {b : List UInt8} (hh : isHead (leavesOf pages) = true) (hS : (newest pages).toNat < S.toNat) (hk : many b < 65536)
    (hout : ∀ j, (j < (readAll (leavesOf pages)).1 ∨ (readAll (leavesOf pages)).1 + many b ≤ j) → pages'[j]? = pages[j]?)
    (hin : ∀ i, i < many b → ∃ p', pages'[(readAll (leavesOf pages)).1 + i]? = some p' ∧ (pages[(readAll (leavesOf pages)).1 + i]? = some p' ∨ p' = LeafM.page ⟨S, i, many b, part b i⟩ ∨ (saidL p').2 = false)) :
    isHead (leavesOf pages') = true ∧
    ((readAll (leavesOf pages') = readAll (leavesOf pages) ∧ ¬ ∀ i, i < many b → pages'[(readAll (leavesOf pages)).1 + i]? = some (LeafM.page ⟨S, i, many b, part b i⟩)) ∨
     ((readAll (leavesOf pages')).1 = (readAll (leavesOf pages)).1 + many b ∧ (readAll (leavesOf pages')).2.2 = (readAll (leavesOf pages)).2.2 ++ [b])) := by
  have hl1 := isHead_len hh
  have hle := (readL_mono (leavesOf pages) (leavesOf pages).length (1, headStamp (leavesOf pages), [])).2 hl1
  have hge := (readL_mono (leavesOf pages) (leavesOf pages).length (1, headStamp (leavesOf pages), [])).1
  have hend := readL_end (leavesOf pages) (leavesOf pages).length (1, headStamp (leavesOf pages), []) (by simp only; omega)
  have hlast := readL_last (leavesOf pages) (leavesOf pages).length (1, headStamp (leavesOf pages), []) (newest pages).toNat (headStamp_le pages) (fun y hy => leaf_le hy)
  change (readAll (leavesOf pages)).1 ≤ _ at hle
  change 1 ≤ (readAll (leavesOf pages)).1 at hge
  change accept _ (readAll (leavesOf pages)).1 (readAll (leavesOf pages)).2.1 = none at hend
  change (readAll (leavesOf pages)).2.1.toNat ≤ _ at hlast
  obtain ⟨⟨e, last, rs⟩, hq⟩ : ∃ q, readAll (leavesOf pages) = q := ⟨_, rfl⟩
  rw [hq] at hout hin hle hge hend hlast ⊢
  simp only at hout hin hle hge hend hlast ⊢
  obtain ⟨a1, a2⟩ := leaves_agree (pages := pages) (pages' := pages') (m := e) (fun j hj => hout j (.inl hj)) hle
  obtain ⟨b1, b2⟩ := isHead_take a2 hge
  refine ⟨b1.trans hh, ?_⟩
  have hpre := readL_prefix (leavesOf pages) (leavesOf pages') (leavesOf pages).length (leavesOf pages').length (1, headStamp (leavesOf pages), []) (by simp only; omega)
    (by change (leavesOf pages').take (readAll (leavesOf pages)).1 = (leavesOf pages).take (readAll (leavesOf pages)).1; rw [hq]; exact a2) (by change (readAll (leavesOf pages)).1 ≤ _; rw [hq]; exact a1)
  obtain ⟨f3, g1, g2⟩ := hpre
  change _ - (readAll (leavesOf pages)).1 ≤ f3 at g1
  change _ = readL (leavesOf pages') f3 (readAll (leavesOf pages)) at g2
  rw [hq] at g1 g2
  rw [← b2] at g2
  change readAll (leavesOf pages') = _ at g2
  rw [g2]
  simp only at g1
  have hkp := many_pos b
  -- a page that bears the new stamp, and says something, is the new leaf
  have hnew : ∀ j y, (leavesOf pages')[j]? = some y → y.stamp = S → e ≤ j ∧ j < e + many b ∧ y = ⟨S, j - e, many b, part b (j - e)⟩ := by
    intro j y hy hys
    obtain ⟨p, hp, ho, rfl⟩ := leaves_get hy
    have hold : pages[j]? = some p → False := fun h => by
      have := (newest_ge (List.mem_of_getElem? h)).1
      rw [saidL_stamp ho] at hys
      rw [hys] at this; omega
    by_cases hj : e ≤ j ∧ j < e + many b
    · obtain ⟨p', hp', hx⟩ := hin (j - e) (by omega)
      rw [show e + (j - e) = j from by omega] at hp' hx
      rw [hp] at hp'
      simp only [Option.some.injEq] at hp'
      subst hp'
      rcases hx with hx | hx | hx
      · exact (hold hx).elim
      · refine ⟨hj.1, hj.2, ?_⟩
        have h0 : S ≠ 0#64 := by rintro rfl; simp at hS
        rw [hx, LeafM.saidL_page ⟨h0, by show j - e < 65536; omega, hk, length_part _ _⟩]
      · rw [hx] at ho; cases ho
    · exact (hold (by rw [← hout j (by omega)]; exact hp)).elim
  have holdp : ∀ (j : Nat) (y : LeafM), (leavesOf pages')[j]? = some y → y.stamp ≠ S → ∃ p : List UInt8, pages[j]? = some p ∧ pages'[j]? = some p ∧ (saidL p).2 = true ∧ y = (saidL p).1 := by
    intro j y hy hys
    obtain ⟨p, hp, ho, rfl⟩ := leaves_get hy
    by_cases hj : e ≤ j ∧ j < e + many b
    · obtain ⟨p', hp', hx⟩ := hin (j - e) (by omega)
      rw [show e + (j - e) = j from by omega] at hp' hx
      rw [hp] at hp'
      simp only [Option.some.injEq] at hp'
      subst hp'
      rcases hx with hx | hx | hx
      · exact ⟨_, hx, hp, ho, rfl⟩
      · have h0 : S ≠ 0#64 := by rintro rfl; simp at hS
        rw [hx, LeafM.saidL_page ⟨h0, by show j - e < 65536; omega, hk, length_part _ _⟩] at hys
        exact (hys rfl).elim
      · rw [hx] at ho; cases ho
    · exact ⟨p, by rw [← hout j (by omega)]; exact hp, hp, ho, rfl⟩
  cases hac : accept (leavesOf pages') e last with
  | none =>
    left
    rw [readL_stop (s := (e, last, rs)) hac]
    refine ⟨rfl, fun hall => ?_⟩
    -- all new: it is accepted
    have hlen : e + many b ≤ (leavesOf pages').length := by
      have : e + many b - 1 < (leavesOf pages').length := (leaves_lt _ _).2 fun i hi => by
        by_cases hie : i < e
        · exact (leaves_lt pages' i).1 (by omega) i (Nat.le_refl _)
        · refine ⟨_, (by have := hall (i - e) (by omega); rwa [show e + (i - e) = i from by omega] at this), ?_⟩
          have h0 : S ≠ 0#64 := by rintro rfl; simp at hS
          rw [LeafM.saidL_page ⟨h0, by show i - e < 65536; omega, hk, length_part _ _⟩]
      omega
    have := accept_intro (leaves := leavesOf pages') (e := e) (last := last) (X := S) (k := many b) hkp hlen (by omega) fun i hi => by
      have h0 : S ≠ 0#64 := by rintro rfl; simp at hS
      have hy := leaves_at (pages := pages') (j := e + i) (by omega) (hall i hi)
      rw [LeafM.saidL_page ⟨h0, by show i < 65536; omega, hk, length_part _ _⟩] at hy
      exact ⟨_, hy, rfl, rfl, rfl⟩
    rw [hac] at this; cases this
  | some r =>
    obtain ⟨k, X, c⟩ := r
    obtain ⟨c1, c2, c3, c4, c5⟩ := accept_some hac
    by_cases hX : X = S
    · subst hX
      right
      obtain ⟨y, hy, y1, y2, y3⟩ := c4 0 (by omega)
      obtain ⟨_, _, hy4⟩ := hnew _ y hy y1
      have hkm : k = many b := by rw [← y3, hy4]
      subst hkm
      have hc : c = b := by
        rw [c5]
        have : (List.take (many b) (List.drop e (leavesOf pages'))) = (List.range (many b)).map fun i => (⟨X, i, many b, part b i⟩ : LeafM) := by
          apply List.ext_getElem?
          intro i
          rw [get_part, List.getElem?_map]
          split
          · rename_i hi
            obtain ⟨z, hz, z1, _⟩ := c4 i hi
            obtain ⟨_, _, hz4⟩ := hnew _ z hz z1
            rw [hz, hz4, List.getElem?_range hi]
            simp
          · rename_i hi
            rw [List.getElem?_eq_none (by simp; omega)]; rfl
        rw [this, List.flatMap_map]
        exact parts_all b
      subst hc
      -- behind it nothing is new
      have hstop : accept (leavesOf pages') (e + many c) X = none := by
        cases hac2 : accept (leavesOf pages') (e + many c) X with
        | none => rfl
        | some r2 =>
          obtain ⟨k2, X2, d2⟩ := r2
          obtain ⟨d1, _, d3, d4, _⟩ := accept_some hac2
          obtain ⟨z, hz, z1, _⟩ := d4 0 (by omega)
          rw [Nat.add_zero] at hz
          have hz2 : z.stamp ≠ X := by rw [z1]; rintro rfl; omega
          obtain ⟨p, hp, _, ho, rfl⟩ := holdp _ z hz hz2
          have := (newest_ge (List.mem_of_getElem? hp)).1
          rw [saidL_stamp ho] at z1
          rw [z1] at this; omega
      cases f3 with
      | zero => omega
      | succ f3 =>
        unfold readL
        rw [hac]
        simp only
        rw [readL_stop (s := (e + many c, X, rs ++ [c])) hstop]
        exact ⟨rfl, rfl⟩
    · -- an elder record was there already
      exfalso
      have hall : ∀ i, i < k → ∃ p : List UInt8, pages[e + i]? = some p ∧ (saidL p).2 = true ∧ ∃ y, (leavesOf pages')[e + i]? = some y ∧ y = (saidL p).1 := by
        intro i hi
        obtain ⟨y, hy, y1, _⟩ := c4 i hi
        obtain ⟨p, hp, _, ho, e1⟩ := holdp _ y hy (by rw [y1]; exact hX)
        exact ⟨p, hp, ho, y, hy, e1⟩
      have hlen : e + k ≤ (leavesOf pages).length := by
        have : e + k - 1 < (leavesOf pages).length := (leaves_lt _ _).2 fun i hi => by
          by_cases hie : i < e
          · exact (leaves_lt pages i).1 (by omega) i (Nat.le_refl _)
          · obtain ⟨p, hp, ho, _⟩ := hall (i - e) (by omega)
            rw [show e + (i - e) = i from by omega] at hp
            exact ⟨p, hp, ho⟩
        omega
      have := accept_intro (leaves := leavesOf pages) (e := e) (last := last) (X := X) (k := k) c1 hlen c3 fun i hi => by
        obtain ⟨p, hp, ho, y, hy, hye⟩ := hall i hi
        obtain ⟨y', hy', q⟩ := c4 i hi
        rw [hy] at hy'
        simp only [Option.some.injEq] at hy'
        subst hy'
        exact ⟨y, by rw [leaves_at (by omega) hp, hye], q⟩
      rw [hend] at this; cases this

/-- What is told behind a head that was put, whole or in part. -/
theorem records_head {pages pages' : List (List UInt8)} {S : BitVec 64} (hS : (newest pages).toNat < S.toNat) (hout : ∀ j, 1 ≤ j → pages'[j]? = pages[j]?)
    (hin : pages'[0]? = pages[0]? ∨ pages'[0]? = some (LeafM.page ⟨S, 0, 0, []⟩) ∨ ∃ p, pages'[0]? = some p ∧ (saidL p).2 = false) :
    (pages'[0]? = some (LeafM.page ⟨S, 0, 0, []⟩) → isHead (leavesOf pages') = true ∧ readAll (leavesOf pages') = (1, S, [])) ∧
    (pages'[0]? ≠ some (LeafM.page ⟨S, 0, 0, []⟩) → leavesOf pages' = leavesOf pages ∨ leavesOf pages' = []) := by
  constructor
  · intro h0
    have hS0 : S ≠ 0#64 := by rintro rfl; simp at hS
    have hsaid := LeafM.saidL_page (x := ⟨S, 0, 0, []⟩) ⟨hS0, by show (0:Nat) < 65536; omega, by show (0:Nat) < 65536; omega, by simp⟩
    have hl : 0 < (leavesOf pages').length := (leaves_lt _ _).2 fun i hi => by
      obtain rfl : i = 0 := by omega
      exact ⟨_, h0, by rw [hsaid]⟩
    have hg := leaves_at hl h0
    rw [hsaid] at hg
    simp only at hg
    obtain ⟨x, r, hx⟩ : ∃ x r, leavesOf pages' = x :: r := by
      cases h : leavesOf pages' with
      | nil => rw [h] at hl; simp at hl
      | cons x r => exact ⟨x, r, rfl⟩
    rw [hx] at hg
    simp only [List.getElem?_cons_zero, Option.some.injEq] at hg
    have hstop : accept (leavesOf pages') 1 S = none := by
      cases hac2 : accept (leavesOf pages') 1 S with
      | none => rfl
      | some r2 =>
        obtain ⟨k2, X2, d2⟩ := r2
        obtain ⟨d1, _, d3, d4, _⟩ := accept_some hac2
        obtain ⟨z, hz, z1, _⟩ := d4 0 (by omega)
        rw [Nat.add_zero] at hz
        obtain ⟨p, hp, ho, rfl⟩ := leaves_get hz
        rw [hout 1 (by omega)] at hp
        have := (newest_ge (List.mem_of_getElem? hp)).1
        rw [saidL_stamp ho] at z1
        rw [z1] at this; omega
    have hhs : headStamp (leavesOf pages') = S := by rw [hx]; subst hg; rfl
    refine ⟨by rw [hx]; subst hg; rfl, ?_⟩
    unfold readAll
    rw [hhs, readL_stop (s := (1, S, [])) hstop]
  · intro h0
    rcases hin with h | h | ⟨p, hp, ho⟩
    · left
      have : pages' = pages := List.ext_getElem? fun j => by
        cases j with
        | zero => exact h
        | succ j => exact hout _ (by omega)
      rw [this]
    · exact (h0 h).elim
    · right
      cases hq : pages' with
      | nil => rfl
      | cons q r =>
        rw [hq] at hp
        simp only [List.getElem?_cons_zero, Option.some.injEq] at hp
        subst hp
        unfold leavesOf
        rw [List.takeWhile_cons, if_neg (by rw [ho]; simp)]; rfl
end LogM
end Go.Proofs.YtfgggkheadfiaaaR
