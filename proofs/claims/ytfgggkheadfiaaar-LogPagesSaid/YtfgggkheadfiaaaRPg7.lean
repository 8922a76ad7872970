/- Plain laws: a log's acts on a disk whose power stays, or goes. No program in sight. -/
import Derived.Lib.SlBytesConst
import Derived.Test.YtfgggkheadfiaaaRPg2
import Derived.Test.YtfgggkheadfiaaaRPg4
import Derived.Test.YtfgggkheadfiaaaRPg6
namespace Go.Proofs.YtfgggkheadfiaaaR
open Go Go.RowKit

namespace DiskM
def tick (d : DiskM) : DiskM := if d.left < 0 then d else { d with left := d.left - 1 }
theorem tick_same (d : DiskM) : d.tick.pages = d.pages ∧ d.tick.row = d.row ∧ d.tick.dead = d.dead := by unfold tick; split <;> exact ⟨rfl, rfl, rfl⟩
theorem tick_left (d : DiskM) : (d.left < 0 → d.tick.left = d.left) ∧ (0 < d.left → d.tick.left = d.left - 1) := by
  unfold tick; constructor
  · intro h; rw [if_pos h]
  · intro h; rw [if_neg (by omega)]
theorem counted_zero {d : DiskM} : d.counted 0 = if d.left = 0 then ({ d with dead := true }, 9) else (d.tick, 0) := by
  unfold counted tick
  by_cases h : d.left < 0
  · rw [if_pos (.inr h), if_neg (by omega), if_pos h]
  · rw [if_neg (by omega)]
    by_cases h2 : d.left = 0
    · rw [if_pos h2, if_pos h2]
    · rw [if_neg h2, if_neg h2, if_neg h]
theorem write_in {d : DiskM} (hd : d.dead = false) {j : Nat} (hj : j < d.pages.length) {l : List UInt8} (hl : l.length = 512) :
    d.write (j : Int) l = if d.left = 0 then ({ d with dead := true }, 9) else ({ d.tick with row := d.row ++ [(j, l)] }, 0) := by
  have ha : d.asked (j : Int) l.length = 0 := by
    unfold asked; rw [hd]; simp only [Bool.false_eq_true, if_false]; rw [if_neg (by omega)]
  unfold write
  rw [ha, counted_zero]
  split
  · simp
  · simp [(tick_same d).2.1]
theorem sync_in {d : DiskM} (hd : d.dead = false) (hp : 0 < d.pages.length) :
    d.sync = if d.left = 0 then ({ d with dead := true }, 9) else (d.tick.done fun _ => 512, 0) := by
  have ha : d.asked 0 512 = 0 := by
    unfold asked; rw [hd]; simp only [Bool.false_eq_true, if_false]; rw [if_neg (by omega)]
  unfold sync
  rw [ha, counted_zero]
  split <;> simp
theorem seen_done {d : DiskM} (hw : d.wf) (j : Nat) : (d.done fun _ => 512).seen j = d.seen j := done_seen d.row 0 d.pages j hw.2.2.1 hw.2.2.2.1
theorem seenIn_put (j : Nat) (q : List UInt8) (row : List (Nat × List UInt8)) (base : Nat) (f : Nat → List UInt8) : ∀ m : Nat,
    seenIn j q (row ++ (List.range m).map fun t => (base + t, f t)) = if base ≤ j ∧ j < base + m then f (j - base) else seenIn j q row
  | 0 => by rw [if_neg (by omega)]; simp
  | m + 1 => by
    rw [List.range_succ, List.map_append, ← List.append_assoc, List.map_cons, List.map_nil, seenIn_snoc, seenIn_put j q row base f m]
    by_cases h : base + m = j
    · rw [if_pos h, if_pos (by omega), show j - base = m from by omega]
    · rw [if_neg h]
      by_cases h2 : base ≤ j ∧ j < base + m
      · rw [if_pos h2, if_pos (by omega)]
      · rw [if_neg h2, if_neg (by omega)]
end DiskM

namespace LogM
theorem put_any (l : LogM) (S : BitVec 64) (hS : l.stamp = S) (of' : Nat) (b : List UInt8) : ∀ (k i : Nat) (d : DiskM), d.dead = false → l.first + l.end' + i + k ≤ d.pages.length →
    ∃ m d', m ≤ k ∧ put l of' b k i d = (d', if m = k then 0 else 9) ∧ d'.pages = d.pages ∧ d'.row = d.row ++ ((List.range m).map fun t => (l.first + l.end' + i + t, LeafM.page ⟨S, i + t, of', part b (i + t)⟩)) ∧
      d'.dead = decide (m < k) ∧ (d.left < 0 → m = k ∧ d'.left = d.left) ∧ (0 ≤ d.left → 0 ≤ d'.left ∧ d'.left ≤ d.left)
  | 0, i, d, hd, hr => ⟨0, d, Nat.le_refl _, rfl, rfl, by simp, by simpa using hd, fun _ => ⟨rfl, rfl⟩, fun h => ⟨h, Int.le_refl _⟩⟩
  | k + 1, i, d, hd, hr => by
    have hw := DiskM.write_in hd (j := l.first + l.end' + i) (by omega) (l := LeafM.page ⟨l.stamp, i, of', part b i⟩) (LeafM.length_page (length_part _ _))
    unfold put
    simp only [hw]
    by_cases h0 : d.left = 0
    · rw [if_pos h0]
      refine ⟨0, { d with dead := true }, by omega, by rw [if_pos (show ((9 : Int) ≠ 0) from by omega), if_neg (by omega)], rfl, by simp, by simp, fun h => by omega, fun _ => ⟨by show 0 ≤ d.left; omega, Int.le_refl _⟩⟩
    · rw [if_neg h0]
      rw [if_neg (by simp)]
      obtain ⟨t1, t2, t3⟩ := DiskM.tick_same d
      obtain ⟨u1, u2⟩ := DiskM.tick_left d
      obtain ⟨m, d', q1, q2, q3, q4, q5, q6, q7⟩ := put_any l S hS of' b k (i + 1) { d.tick with row := d.row ++ [(l.first + l.end' + i, LeafM.page ⟨l.stamp, i, of', part b i⟩)] } (by show d.tick.dead = false; rw [t3]; exact hd) (by show _ ≤ d.tick.pages.length; rw [t1]; omega)
      refine ⟨m + 1, d', by omega, ?_, q3.trans t1, ?_, ?_, ?_, ?_⟩
      · rw [q2]
        by_cases hm : m = k
        · rw [if_pos hm, if_pos (by omega)]
        · rw [if_neg hm, if_neg (by omega)]
      · rw [q4]
        show (d.row ++ _) ++ _ = _
        rw [List.append_assoc, List.range_succ_eq_map, List.map_cons, List.map_map, hS]
        congr 1
        simp only [List.singleton_append, Nat.add_zero]
        congr 1
        apply List.map_congr_left
        intro t _
        simp only [Function.comp, Nat.succ_eq_add_one]
        rw [show i + 1 + t = i + (t + 1) from by omega, show l.first + l.end' + (i + 1) + t = l.first + l.end' + i + (t + 1) from by omega]
      · rw [q5]; simp
      · intro h
        obtain ⟨a, b⟩ := q6 (by show d.tick.left < 0; rw [u1 h]; exact h)
        exact ⟨by omega, b.trans (u1 h)⟩
      · intro h
        have hx := u2 (by omega)
        obtain ⟨a, b⟩ := q7 (by show 0 ≤ d.tick.left; omega)
        change d'.left ≤ d.tick.left at b
        exact ⟨a, by omega⟩

/-- The pages behind a record that was put from page e on. -/
def putPages (pages : List (List UInt8)) (e : Nat) (S : BitVec 64) (b : List UInt8) : List (List UInt8) :=
  (List.range pages.length).map fun j => if e ≤ j ∧ j < e + many b then LeafM.page ⟨S, j - e, many b, part b (j - e)⟩ else pages.getD j []
def headPages (pages : List (List UInt8)) (S : BitVec 64) : List (List UInt8) := pages.set 0 (LeafM.page ⟨S, 0, 0, []⟩)
theorem length_putPages (pages : List (List UInt8)) (e : Nat) (S : BitVec 64) (b : List UInt8) : (putPages pages e S b).length = pages.length := by simp [putPages]
theorem length_headPages (pages : List (List UInt8)) (S : BitVec 64) : (headPages pages S).length = pages.length := by simp [headPages]
theorem get_putPages (pages : List (List UInt8)) (e : Nat) (S : BitVec 64) (b : List UInt8) (j : Nat) : (putPages pages e S b)[j]? = if j < pages.length then (if e ≤ j ∧ j < e + many b then some (LeafM.page ⟨S, j - e, many b, part b (j - e)⟩) else pages[j]?) else none := by
  unfold putPages
  rw [List.getElem?_map]
  by_cases hj : j < pages.length
  · rw [List.getElem?_range hj, if_pos hj]
    simp only [Option.map_some]
    split
    · rfl
    · rw [List.getD_eq_getElem?_getD, List.getElem?_eq_getElem hj]; rfl
  · rw [List.getElem?_eq_none (by simp; omega), if_neg hj]; rfl

theorem length_seenPages (d : DiskM) (f n : Nat) : (seenPages d f n).length = n := by simp [seenPages]
theorem get_seenPages (d : DiskM) (f n j : Nat) (hj : j < n) : (seenPages d f n)[j]? = some (d.seen (f + j)) := by
  simp [seenPages, hj]
theorem seenPages_ext {d : DiskM} {f n : Nat} {l : List (List UInt8)} (hl : l.length = n) (h : ∀ j, j < n → l[j]? = some (d.seen (f + j))) : seenPages d f n = l := by
  apply List.ext_getElem?
  intro j
  by_cases hj : j < n
  · rw [get_seenPages _ _ _ _ hj, h j hj]
  · rw [List.getElem?_eq_none (by rw [length_seenPages]; omega), List.getElem?_eq_none (by omega)]

/-- The log is what its pages tell. -/
def Fine (s : LogM × DiskM) : Prop := s.1 = ofPages s.1.first (seenPages s.2 s.1.first s.1.n) ∧ s.1.first + s.1.n ≤ s.2.pages.length ∧ 2 ≤ s.1.n ∧ s.2.wf

theorem ofPages_n (f : Nat) (pages : List (List UInt8)) : (ofPages f pages).n = pages.length ∧ (ofPages f pages).first = f ∧ (ofPages f pages).dead = false ∧ (ofPages f pages).stamp = newest pages := ⟨rfl, rfl, rfl, rfl⟩
theorem end_le (f : Nat) (pages : List (List UInt8)) (h1 : 1 ≤ pages.length) : 1 ≤ (ofPages f pages).end' ∧ (ofPages f pages).end' ≤ pages.length := by
  show 1 ≤ (if isHead (leavesOf pages) then (readAll (leavesOf pages)).1 else 1) ∧ (if isHead (leavesOf pages) then (readAll (leavesOf pages)).1 else 1) ≤ _
  split
  · rename_i hh
    have hl1 := isHead_len hh
    have hle := (readL_mono (leavesOf pages) (leavesOf pages).length (1, headStamp (leavesOf pages), [])).2 hl1
    have hge := (readL_mono (leavesOf pages) (leavesOf pages).length (1, headStamp (leavesOf pages), [])).1
    have : (leavesOf pages).length ≤ pages.length := by
      unfold leavesOf; rw [List.length_map]; exact (List.takeWhile_sublist _).length_le
    exact ⟨hge, Nat.le_trans hle this⟩
  · omega

theorem head8 {x : LeafM} (h : x.bytes.length ≤ 480) : num (x.page.take 8) = x.stamp ∧ num (x.page.drop 504) = x.stamp := by
  obtain ⟨e1, _, _, _, _, e2⟩ := LeafM.page_parts x h
  rw [e1, e2, num_be8]; exact ⟨rfl, rfl⟩
theorem newest_put {pages : List (List UInt8)} {e : Nat} {S : BitVec 64} {b : List UInt8} (hS : (newest pages).toNat ≤ S.toNat) (he : e + many b ≤ pages.length) : newest (putPages pages e S b) = S := by
  apply BitVec.eq_of_toNat_eq
  apply Nat.le_antisymm
  · rw [newest_le]
    intro p hp
    obtain ⟨j, hj⟩ := List.mem_iff_getElem?.1 hp
    rw [get_putPages] at hj
    split at hj
    · split at hj
      · simp only [Option.some.injEq] at hj
        subst hj
        obtain ⟨a, c⟩ := head8 (x := ⟨S, j - e, many b, part b (j - e)⟩) (length_part _ _)
        rw [a, c]; exact ⟨Nat.le_refl _, Nat.le_refl _⟩
      · have := newest_ge (List.mem_of_getElem? hj); omega
    · cases hj
  · have hk := many_pos b
    have hm : LeafM.page ⟨S, 0, many b, part b 0⟩ ∈ putPages pages e S b := by
      apply List.mem_of_getElem? (i := e)
      rw [get_putPages, if_pos (by omega), if_pos (by omega), Nat.sub_self]
    have := (newest_ge hm).1
    rw [(head8 (x := ⟨S, 0, many b, part b 0⟩) (length_part _ _)).1] at this
    exact this
theorem newest_head {pages : List (List UInt8)} {S : BitVec 64} (hS : (newest pages).toNat ≤ S.toNat) (h1 : 1 ≤ pages.length) : newest (headPages pages S) = S := by
  apply BitVec.eq_of_toNat_eq
  apply Nat.le_antisymm
  · rw [newest_le]
    intro p hp
    rcases List.mem_or_eq_of_mem_set hp with hp | rfl
    · have := newest_ge hp; omega
    · obtain ⟨a, c⟩ := head8 (x := ⟨S, 0, 0, []⟩) (by simp)
      rw [a, c]; exact ⟨Nat.le_refl _, Nat.le_refl _⟩
  · have hm : LeafM.page ⟨S, 0, 0, []⟩ ∈ headPages pages S := by
      apply List.mem_of_getElem? (i := 0)
      rw [headPages, List.getElem?_set_self (by omega)]
    have := (newest_ge hm).1
    rw [(head8 (x := ⟨S, 0, 0, []⟩) (by simp)).1] at this
    exact this
theorem ofPages_head {f : Nat} {pages : List (List UInt8)} {S : BitVec 64} (hS : (newest pages).toNat < S.toNat) (h1 : 1 ≤ pages.length) :
    ofPages f (headPages pages S) = { first := f, n := pages.length, stamp := S, headed := true, end' := 1, records := [], dead := false } := by
  obtain ⟨a, b⟩ := (records_head (pages := pages) (pages' := headPages pages S) hS (fun j hj => by rw [headPages, List.getElem?_set_ne (by omega)]) (.inr (.inl (by rw [headPages, List.getElem?_set_self (by omega)])))).1 (by rw [headPages, List.getElem?_set_self (by omega)])
  unfold ofPages
  simp only [a, b, if_true, newest_head (Nat.le_of_lt hS) h1, length_headPages]
theorem ofPages_put {f : Nat} {pages : List (List UInt8)} {S : BitVec 64} {b : List UInt8} (hh : (ofPages f pages).headed = true) (hS : (newest pages).toNat < S.toNat) (hk : many b < 65536) (he : (ofPages f pages).end' + many b ≤ pages.length) :
    ofPages f (putPages pages (ofPages f pages).end' S b) = { first := f, n := pages.length, stamp := S, headed := true, end' := (ofPages f pages).end' + many b, records := (ofPages f pages).records ++ [b], dead := false } := by
  have hh' : isHead (leavesOf pages) = true := hh
  have hee : (ofPages f pages).end' = (readAll (leavesOf pages)).1 := by show (if isHead (leavesOf pages) then _ else _) = _; rw [if_pos hh']
  have hrr : (ofPages f pages).records = (readAll (leavesOf pages)).2.2 := by show (if isHead (leavesOf pages) then _ else _) = _; rw [if_pos hh']
  rw [hrr]
  rw [hee] at he ⊢
  have hall : ∀ i, i < many b → (putPages pages (readAll (leavesOf pages)).1 S b)[(readAll (leavesOf pages)).1 + i]? = some (LeafM.page ⟨S, i, many b, part b i⟩) := fun i hi => by
    rw [get_putPages, if_pos (by omega), if_pos (by omega), Nat.add_sub_cancel_left]
  obtain ⟨a, c⟩ := records_put (pages := pages) (pages' := putPages pages (readAll (leavesOf pages)).1 S b) (b := b) hh' hS hk
    (fun j hj => by
      rw [get_putPages]
      split
      · rw [if_neg (by omega)]
      · rw [List.getElem?_eq_none (by omega)])
    (fun i hi => ⟨_, hall i hi, .inr (.inl rfl)⟩)
  rcases c with ⟨_, c⟩ | ⟨c1, c2⟩
  · exact (c hall).elim
  · unfold ofPages
    simp only [a, c1, c2, if_true, newest_put (Nat.le_of_lt hS) he, length_putPages]
end LogM
end Go.Proofs.YtfgggkheadfiaaaR
/- Contract: log.Open. -/
namespace Go.Proofs.YtfgggkheadfiaaaR
open Go Go.RowKit
attribute [local go_sem ↓] Go.wp_at_zero Go.wp_at_succ

theorem inf139 : (Try.prog.info? 139).map (fun i => (i.zero.map (fun z => z.cells.toList), i.size, i.bytes)) = some (some [.int .u64 0, .int .i64 0, .int .i64 0, .slice none 0 0], 4, 48) := by kernel_rfl
def lvCells : List LeafM → List Value → List Value
  | x :: ls, bv :: bvs => leafV x bv ++ lvCells ls bvs
  | _, _ => []
theorem lvCells_snoc (x : LeafM) (bv : Value) : ∀ (ls : List LeafM) (bvs : List Value), bvs.length = ls.length → lvCells (ls ++ [x]) (bvs ++ [bv]) = lvCells ls bvs ++ leafV x bv
  | [], [], _ => by simp [lvCells]
  | [], _ :: _, h => by simp at h
  | _ :: _, [], h => by simp at h
  | y :: ls, b :: bvs, h => by simp only [List.cons_append, lvCells, List.append_assoc]; rw [lvCells_snoc x bv ls bvs (by simpa using h)]
theorem lvCells_get : ∀ (ls : List LeafM) (bvs : List Value) (i : Nat) (x : LeafM) (bv : Value) (j : Nat) (v : Value), ls[i]? = some x → bvs[i]? = some bv → (leafV x bv)[j]? = some v → (lvCells ls bvs)[i * 4 + j]? = some v
  | [], _, _, _, _, _, _, h, _, _ => by simp at h
  | _ :: _, [], _, _, _, _, _, _, h, _ => by simp at h
  | y :: ls, b :: bvs, 0, x, bv, j, v, h1, h2, h3 => by
    simp only [List.getElem?_cons_zero, Option.some.injEq] at h1 h2
    subst h1; subst h2
    simp only [lvCells, Nat.zero_mul, Nat.zero_add]
    rw [List.getElem?_append_left (List.getElem?_eq_some_iff.1 h3).1]; exact h3
  | y :: ls, b :: bvs, i + 1, x, bv, j, v, h1, h2, h3 => by
    simp only [List.getElem?_cons_succ] at h1 h2
    simp only [lvCells]
    rw [List.getElem?_append_right (by simp [leafV]; omega)]
    rw [show (i + 1) * 4 + j - (leafV y b).length = i * 4 + j from by simp [leafV]; omega]
    exact lvCells_get ls bvs i x bv j v h1 h2 h3
/-- A row of leaves of its own; its block is the object X's. -/
def LvRow (W : World) (o : Own) (X base : Nat) (v : Value) (ls : List LeafM) : Prop :=
  ∃ bvs, W.ownsRow base 139 4 v ls.length (lvCells ls bvs) ∧ RowsB W o bvs (ls.map LeafM.bytes) ∧ ∀ k, v.ownBlock = some k → o k = (X, 2)
theorem LvRow.nil (W : World) (o : Own) (X base : Nat) : LvRow W o X base (.slice none 0 0) [] :=
  ⟨[], by simpa [lvCells] using World.ownsRow_nil _ _ _ _, RowsB.nil _ _, fun k hk => by simp [Value.ownBlock] at hk⟩
theorem LvRow.form {W : World} {o : Own} {X base : Nat} {v : Value} {ls : List LeafM} (h : LvRow W o X base v ls) : ∃ a c, v = .slice a ls.length c := by
  obtain ⟨bvs, h1, -⟩ := h; exact own_form h1
theorem LvRow.step {W W' : World} {o o' : Own} {X base : Nat} {v : Value} {ls : List LeafM} {T : Nat → Prop} (h : LvRow W o X base v ls) (s : Step T W o W' o') (hX : ¬ T X) (h0 : ¬ T 0) : LvRow W' o' X base v ls := by
  obtain ⟨bvs, h1, h2, h3⟩ := h
  refine ⟨bvs, ⟨h1.1, ?_⟩, h2.step s h0, fun k hk => ?_⟩
  · rcases h1.2 with hn | ⟨g, cap, cur, hv, hb, hc, rest⟩
    · exact .inl hn
    · refine .inr ⟨g, cap, cur, hv, hb, ?_, rest⟩
      rw [s.block g (lt_of_block hc) (by rw [h3 g (by rw [hv]; rfl)]; exact hX)]; exact hc
  · rw [s.own k (h1.lt k hk).2]; exact h3 k hk
/-- A cell of another block is written. -/
theorem LvRow.set {W : World} {o : Own} {X base : Nat} {v : Value} {ls : List LeafM} (h : LvRow W o X base v ls) (hX : X ≠ 0) (a : Addr) (u : Value) (ha : o a.block ≠ (X, 2)) (ha1 : (o a.block).1 = X) : LvRow (W.setCell a u) o X base v ls := by
  obtain ⟨bvs, h1, h2, h3⟩ := h
  have hs := (Step.refl (Only X) W o).setCell (a := a) u (.inl ha1)
  refine ⟨bvs, ⟨h1.1, ?_⟩, h2.step hs (fun h => hX h.symm), h3⟩
  rcases h1.2 with hn | ⟨g, cap, cur, hv, hb, hc, rest⟩
  · exact .inl hn
  · refine .inr ⟨g, cap, cur, hv, hb, ?_, rest⟩
    rw [Below.heap_setCell _ _ _ _ (by rintro rfl; exact ha (h3 _ (by rw [hv]; rfl)))]; exact hc
/-- A leaf is appended. -/
theorem LvRow.append {W : World} {o : Own} {X base : Nat} {v : Value} {ls : List LeafM} (h : LvRow W o X base v ls) (hbase : base ≤ W.heap.size) (hX : X ≠ 0) (hn : ls.length ≤ 100000) {nb : Nat} {x : LeafM} {bv : Value}
    (hnb : W.heap[nb]? = some (.cells (leafV x bv).toArray 139 (0, 0))) (hb : Bytes W o bv x.bytes) :
    ∃ v' w' o', (Builtin.append_ #[136, 136] 136 #[v, .slice (some ⟨nb, 0, none⟩) 1 1]).run Try.prog W = .ok v' w' ∧ LvRow w' o' X base v' (ls ++ [x]) ∧ Step (Only X) W o w' o' ∧ (∀ k, v.ownBlock ≠ some k → k < W.heap.size → w'.heap[k]? = W.heap[k]?) := by
  obtain ⟨bvs, h1, h2, h3⟩ := h
  obtain ⟨g, cap, w', hrun, hown, hgrow, hat, hlt⟩ := run_append_row (P := Try.prog) W 136 136 139 Try.underlying136 inf139 rfl (by omega) hbase v ls.length _ h1 nb 0 1 1 (leafV x bv) rfl (range_whole hnb)
    (by have := one_leafV hb; intro u hu; exact List.all_eq_true.1 this u hu) (by omega) (by omega) (by omega)
  have hgt : o g = (X, 2) ∨ W.heap.size ≤ g := by
    rcases hat with hat | hat
    · exact .inl (h3 g hat)
    · exact .inr (by omega)
  have hs : Step (Only X) W o w' (tagAt o g (X, 2)) := (Step.refl (Only X) W o).grown hgrow (fun k hk => .inl (by rw [h3 k hk]; rfl)) g (X, 2) hgt
  refine ⟨_, w', _, hrun, ⟨bvs ++ [bv], ?_, ?_, ?_⟩, hs, fun k hk hlt => hgrow.block k hlt (fun h => hk h.symm)⟩
  · rw [lvCells_snoc _ _ _ _ (by have := h2.1; simpa using this)]; simpa using hown
  · rw [List.map_append]
    exact (h2.step hs (fun h => hX h.symm)).snoc (hb.step hs (fun h => hX h.symm))
  · intro k hk
    simp only [Value.ownBlock, Option.some.injEq] at hk
    subst hk; exact tagAt_same _ _ _
/-- The row, cut at m, read as leaves; its block belongs to nobody from now on. -/
theorem LvRow.lvs {W : World} {o : Own} {X base : Nat} {v : Value} {ls : List LeafM} (h : LvRow W o X base v ls) (hX : X ≠ 0) (m : Nat) (h1m : 1 ≤ m) (hm : m ≤ ls.length) :
    ∃ g cap, v = .slice (some ⟨g, 0, none⟩) ls.length cap ∧ ls.length ≤ cap ∧ cap ≤ maxLen ∧ base ≤ g ∧ o g = (X, 2) ∧ (∃ cs, W.heap[g]? = some (.cells cs 139 (0, 0))) ∧ LvsAt W (tagAt o g (0, 0)) (.slice (some ⟨g, 0, none⟩) m cap) (ls.take m) := by
  obtain ⟨bvs, h1, h2, h3⟩ := h
  rcases h1.2 with ⟨_, h0⟩ | ⟨g, cap, cur, rfl, hb, hc, h4, h5, h6, h7⟩
  · omega
  · have hgl := lt_of_block hc
    have hne : ∀ (k : Nat), (o k).1 = 0 → k ≠ g := fun k hk e => by rw [e, h3 g rfl] at hk; exact hX hk
    have hlen : bvs.length = ls.length := by have := h2.1; simpa using this
    refine ⟨g, cap, rfl, h4, h5, hb, h3 g rfl, ⟨cur, hc⟩, g, 0, cap, bvs.take m, by rw [List.length_take, Nat.min_eq_left hm], by rw [List.length_take]; omega, h5, by rw [tagAt_same], hgl, ?_, ?_⟩
    · have hs : Step Nobody W o W (tagAt o g (0, 0)) → True := fun _ => trivial
      refine ⟨by simp [hlen], fun i v l hv hl => ?_⟩
      have hv' : bvs[i]? = some v := by rw [List.getElem?_take] at hv; split at hv; exact hv; cases hv
      have hl' : (ls.map LeafM.bytes)[i]? = some l := by rw [List.map_take, List.getElem?_take] at hl; split at hl; exact hl; cases hl
      rcases h2.2 i v l hv' hl' with hq | ⟨b, off, cap', q1, q2, q3, q4, q5, q6⟩
      · exact .inl hq
      · exact .inr ⟨b, off, cap', q1, q2, q3, by rw [tagAt_other _ _ (hne b q4)]; exact q4, q5, q6⟩
    · intro i x bv hx hbv j u hu
      have hx' : ls[i]? = some x := by rw [List.getElem?_take] at hx; split at hx; exact hx; cases hx
      have hbv' : bvs[i]? = some bv := by rw [List.getElem?_take] at hbv; split at hbv; exact hbv; cases hbv
      have h8 := lvCells_get ls bvs i x bv j u hx' hbv' hu
      rw [← h7, List.getElem?_take] at h8
      split at h8
      · rw [Nat.zero_add]
        rw [cell_of_block (cs := cur.toList) (E := 139) (fr := (0, 0)) (by simpa using hc)]; exact h8
      · cases h8
section
variable {w : World} {o : Own} {L D pd : Nat} {d : DiskM}
set_option maxRecDepth 100000 in
theorem open_nil (first n : Int) (w : World) : Calls Try.prog 38 #[.pointer none, .int .i64 first, .int .i64 n] w fun e w' => e = .returned (.tuple #[.pointer none, .int .i64 8]) ∧ w = w' := by
  go_enter Try.func38, Try.ntmps38
  go_wp2
  go_ret2
  exact ⟨rfl, rfl⟩
set_option maxRecDepth 100000 in
theorem open_dead (h : DiskAt w o D pd d) (hd : d.dead = true) (first n : Int) :
    Calls Try.prog 38 #[.pointer (some ⟨pd, 0, none⟩), .int .i64 first, .int .i64 n] w fun e w' => e = .returned (.tuple #[.pointer none, .int .i64 9]) ∧ w = w' := by
  have hdd := dead_any h
  rw [hd] at hdd
  clear hd
  go_enter Try.func38, Try.ntmps38
  go_wp2_with fail
  refine hdd.mono ?_; rintro e w' ⟨rfl, rfl⟩
  go_wp2_with fail
  go_ret2
  exact ⟨rfl, rfl⟩
set_option maxRecDepth 100000 in
set_option maxHeartbeats 1600000 in
theorem open_arg (h : DiskAt w o D pd d) (hd : d.dead = false) (first n : Int) (hb : n < 2 ∨ first < 0 ∨ (d.pages.length : Int) - n < first) (hn : n ≤ 9223372036854775807 ∧ -9223372036854775808 ≤ first ∧ first ≤ 9223372036854775807) :
    Calls Try.prog 38 #[.pointer (some ⟨pd, 0, none⟩), .int .i64 first, .int .i64 n] w (Ret Nobody w o fun v _w' _o' => v = .tuple #[.pointer none, .int .i64 1]) := by
  have hdd := dead_any h
  rw [hd] at hdd
  have hsz := size_any h
  have hst := (Step.refl Nobody w o).drew
  clear hd
  go_enter Try.func38, Try.ntmps38
  go_wp2_with fail
  refine hdd.mono ?_; rintro e w' ⟨rfl, rfl⟩
  have hpl : (d.pages.length : Int) ≤ 4096 := by obtain ⟨h1, h2, -⟩ := h.wf; omega
  have hw : 2 ≤ n → IntKind.i64.wrap ((d.pages.length : Int) - n) = (d.pages.length : Int) - n := fun h2 => wrap_i64 (by omega) (by omega)
  by_cases hA : n < 2
  · clear hw hpl hb hn
    go_wp2_with fail
    all_goals first | (go_ret2; exact ⟨_, o, rfl, Step.refl _ _ _, rfl⟩) | skip
  · have hw2 := hw (by omega)
    clear hw
    by_cases hB : first < 0
    · clear hw2 hpl hb hn
      go_wp2_with fail
      all_goals first | (go_ret2; exact ⟨_, o, rfl, Step.refl _ _ _, rfl⟩) | skip
    · have hC : (d.pages.length : Int) - n < first := by omega
      clear hpl hb hn
      go_wp2_with fail
      refine hsz.mono ?_; rintro e w' ⟨rfl, rfl⟩
      go_wp2_with fail
      all_goals first | (go_ret2; exact ⟨_, o, rfl, Step.refl _ _ _, rfl⟩) | skip

def LogM.raw (f n : Nat) (S : BitVec 64) : LogM := ⟨f, n, S, false, 1, [], false⟩
theorem LogM.newest_snoc (ps : List (List UInt8)) (k : Nat) (p : List UInt8) (h : ps[k]? = some p) : LogM.newest (ps.take (k + 1)) = LogM.umax (LogM.umax (LogM.newest (ps.take k)) (num (p.take 8))) (num (p.drop 504)) := by
  rw [List.take_add_one, h]
  simp only [LogM.newest, Option.toList_some, List.foldl_append, List.foldl_cons, List.foldl_nil]
theorem takeWhile_at {α : Type} (p : α → Bool) (l : List α) (k : Nat) (x : α) (h : l[k]? = some x) (hk : k ≤ (l.takeWhile p).length) : p x = true ↔ k < (l.takeWhile p).length := by
  constructor
  · intro hx
    rw [LogM.lt_takeWhile]
    intro i hi
    by_cases hik : i = k
    · subst hik; exact ⟨x, h, hx⟩
    · exact (LogM.lt_takeWhile p l i).1 (by omega) i (Nat.le_refl _)
  · intro hl
    obtain ⟨y, hy, hp⟩ := (LogM.lt_takeWhile p l k).1 hl k (Nat.le_refl _)
    rw [h] at hy; cases hy; exact hp

/-- What Open answers on a part whose pages are ps. -/
def Opened (w w' : World) (o' : Own) (L pd f : Nat) (ps : List (List UInt8)) (v : Value) : Prop :=
  (LogM.newest ps = BitVec.allOnes 64 → v = .tuple #[.pointer none, .int .i64 2]) ∧
  (LogM.newest ps ≠ BitVec.allOnes 64 → ∃ p, w.heap.size ≤ p ∧ v = .tuple #[.pointer (some ⟨p, 0, none⟩), .int .i64 0] ∧ LogAt w' o' L p pd (LogM.ofPages f ps))
theorem zs139 : (Try.prog.info? 139).map (fun i => (i.zero.map (fun z => z.cells.toList), i.size)) = some (some [.int .u64 0, .int .i64 0, .int .i64 0, .slice none 0 0], 4) := by kernel_rfl
theorem buildSlice136 (w : World) (x : LeafM) (bv : Value) (_h1 : (leafV x bv).all (·.oneCell') = true) :
    (Instr.buildSlice 136 1 #[(0, .agg (leafV x bv).toArray)]).run Try.prog w = .ok (.slice (some ⟨w.heap.size, 0, none⟩) 1 1) (w.alloc (.cells (leafV x bv).toArray 139)) :=
  run_buildSlice_one w 136 139 _ (.agg (leafV x bv).toArray) (leafV x bv) Try.underlying136 zs139 rfl (by simp [leafV]) (by simp [leafV]) rfl
theorem umax3_int (S A B : BitVec 64) : (if (if S.toNat < A.toNat then (A.toNat : Int) else (S.toNat : Int)) < (B.toNat : Int) then (B.toNat : Int) else if S.toNat < A.toNat then (A.toNat : Int) else (S.toNat : Int)) = ((LogM.umax (LogM.umax S A) B).toNat : Int) := by
  rw [LogM.umax_toNat, LogM.umax_toNat]
  split <;> split <;> omega
set_option maxRecDepth 100000 in
set_option maxHeartbeats 6400000 in
theorem open_yes (hL : L ≠ 0) (_hD : D ≠ 0) (hLD : L ≠ D) (h : DiskAt w o D pd d) (hrow : d.row.length ≤ 1000000) (hd : d.dead = false) (f n : Nat) (h2n : 2 ≤ n) (hn : n ≤ 2000) (hf : f + n ≤ d.pages.length) :
    Calls Try.prog 38 #[.pointer (some ⟨pd, 0, none⟩), .int .i64 (f : Int), .int .i64 (n : Int)] w (Ret (Only L) w o fun v w' o' =>
      Opened w w' o' L pd f (LogM.seenPages d f n) v) := by
  have hN : ¬ Only L 0 := fun h => hL h.symm
  have hND : ¬ Only L D := fun h => hLD h.symm
  have hdd := dead_any h
  rw [hd] at hdd
  have hsz := size_any h
  obtain ⟨ps, hps⟩ : ∃ ps, LogM.seenPages d f n = ps := ⟨_, rfl⟩
  have hpl : ps.length = n := by rw [← hps]; exact LogM.length_seenPages _ _ _
  have hpg : ∀ k, k < n → ps[k]? = some (d.seen (f + k)) := fun k hk => by rw [← hps]; exact LogM.get_seenPages _ _ _ _ hk
  have hwf := h.wf
  have hpl4 : d.pages.length ≤ 4096 := hwf.2.1
  have hasked : ∀ k, k < n → d.asked ((f + k : Nat) : Int) 512 = 0 := fun k hk => by
    unfold DiskM.asked; rw [hd, if_neg (by simp), if_neg (by omega)]
  rw [hps]
  have hA1 : ¬ (n : Int) < 2 := by omega
  have hA2 : ¬ (f : Int) < 0 := by omega
  have hA3 : ¬ (d.pages.length : Int) - (n : Int) < (f : Int) := by omega
  have hA4 : IntKind.i64.wrap ((d.pages.length : Int) - (n : Int)) = (d.pages.length : Int) - (n : Int) := wrap_i64 (by omega) (by omega)
  -- the log's own struct
  have hbox : LogAt (w.alloc (.cells ((LogM.raw f n 0).cells pd (.slice none 0 0)).toArray 135)) (tagAt o w.heap.size (L, 0)) L w.heap.size pd (LogM.raw f n 0) :=
    ⟨.slice none 0 0, [], heap_alloc_new w _, World.ownsRow_nil _ _ _ _, RowsT.nil _ _, tagAt_same _ _ _, fun k hk => by simp [Value.ownBlock] at hk,
      ⟨by show f ≤ 4096; omega, h2n, hn, Nat.le_refl _, by show 1 ≤ n; omega, by show 0 + 1 ≤ 1; omega, fun r hr => by simp [LogM.raw] at hr⟩⟩
  have hsb : Step (Only L) w o _ _ := (Step.refl (Only L) w o).alloc (.cells ((LogM.raw f n 0).cells pd (.slice none 0 0)).toArray 135) (L, 0)
  obtain ⟨t, ht⟩ : ∃ t, (ps.takeWhile fun p => (saidL p).2).length = t := ⟨_, rfl⟩
  have htn : t ≤ n := by rw [← ht, ← hpl]; exact List.Sublist.length_le (List.takeWhile_sublist _)
  have htk : ∀ k, k < n → k ≤ t → ((saidL (d.seen (f + k))).2 = true ↔ k < t) := fun k hk hkt => by
    rw [← ht] at hkt ⊢
    exact takeWhile_at _ ps k _ (hpg k hk) hkt
  have hsn : ∀ k, k < n → LogM.newest (ps.take (k + 1)) = LogM.umax (LogM.umax (LogM.newest (ps.take k)) (num ((d.seen (f + k)).take 8))) (num ((d.seen (f + k)).drop 504)) := fun k hk => LogM.newest_snoc ps k _ (hpg k hk)
  have htk1 : ∀ k, k < n → (ps.take (k + 1)) = ps.take k ++ [d.seen (f + k)] := fun k hk => by rw [List.take_add_one, hpg k hk]; rfl
  have hpsH := hidden hps
  have hplH := hidden hpl
  have hpgH := hidden hpg
  have haskedH := hidden hasked
  have htkH := hidden htk
  have hsnH := hidden hsn
  have htk1H := hidden htk1
  have htH := hidden ht
  have hh := hidden h
  clear hps hpl hpg hasked htk hsn htk1 ht hwf h
  go_enter Try.func38, Try.ntmps38
  go_wp2_with fail
  refine hdd.mono ?_; rintro e w' ⟨rfl, rfl⟩
  go_wp2_with fail
  refine hsz.mono ?_; rintro e w' ⟨rfl, rfl⟩
  clear hdd hsz
  go_wp2_with fail
  clear hA1 hA2 hA3 hA4
  have hc0 : (LogM.raw f n 0).cells pd (.slice none 0 0) = [.pointer (some ⟨pd, 0, none⟩), .int .i64 (f : Int), .int .i64 (n : Int), .int .u64 0, .bool false, .int .i64 1, .slice none 0 0, .bool false] := rfl
  rw [hc0] at hbox hsb
  clear hc0
  obtain ⟨p, hp⟩ : ∃ p, w.heap.size = p := ⟨_, rfl⟩
  rw [hp] at hbox hsb ⊢
  go_loopw [9, 10, 44] (fun lv en i wr => ∃ (k E : Nat) (o' : Own), k ≤ n ∧ i = .int .i64 k ∧ en = .int .i64 (E : Int) ∧ Hid (E = if t < k then t else n) ∧ Step (Only L) w o wr o' ∧ LogAt wr o' L p pd (LogM.raw f n (LogM.newest (ps.take k))) ∧ LvRow wr o' L p lv ((ps.take k).map fun p => (saidL p).1))
    (fun _ _ i _ => n - (intOf i).toNat)
  case atStart => exact ⟨0, n, _, Nat.zero_le _, rfl, rfl, hidden (by simp), hsb, hbox, LvRow.nil _ _ _ _⟩
  case round =>
    obtain ⟨k, E, o1, hk, rfl, rfl, hE, hst, hlg, hlv⟩ := hrel
    by_cases hlt : k < n
    · have hd1 := hh.out.step hst hND
      have hrd := read_yes hd1 ((f + k : Nat) : Int) (haskedH.out k hlt) hrow
      have hlti : (k : Int) < (n : Int) := by omega
      rw [show (((f + k : Nat) : Int)).toNat = f + k from by omega, show ((f + k : Nat) : Int) = (f : Int) + (k : Int) from by omega] at hrd
      have hplen : (d.seen (f + k)).length = 512 := by
        obtain ⟨hw1, hw2, hw3, hw4, -, -⟩ := hh.out.wf
        have : ∀ (row : List (Nat × List UInt8)) (q : List UInt8), q.length = 512 → (∀ x ∈ row, x.2.length = 512) → (DiskM.seenIn (f + k) q row).length = 512 := by
          intro row
          induction row with
          | nil => intro q hq _; exact hq
          | cons x r ih =>
            intro q hq hx
            refine ih _ ?_ (fun y hy => hx y (by simp [hy]))
            dsimp only
            split
            · exact hx x (by simp)
            · exact hq
        exact this _ _ (DiskM.getD_wf hw3 (by omega)) (fun x hx => (hw4 x hx).2)
      have htk := htkH.out k hlt
      have hsn := hsnH.out k hlt
      have htk1 := htk1H.out k hlt
      obtain ⟨P, hP⟩ : ∃ P, d.seen (f + k) = P := ⟨_, rfl⟩
      rw [hP] at hrd hplen htk hsn htk1
      obtain ⟨S, hS⟩ : ∃ S, LogM.newest (ps.take k) = S := ⟨_, rfl⟩
      rw [hS] at hlg hsn
      obtain ⟨ls, hls⟩ : ∃ ls, ((ps.take k).map fun p => (saidL p).1) = ls := ⟨_, rfl⟩
      have hlsn : ((ps.take (k + 1)).map fun p => (saidL p).1) = ls ++ [(saidL P).1] := by rw [htk1, List.map_append, hls]; rfl
      have hlsl : ls.length = k := by rw [← hls, List.length_map, List.length_take, hplH.out]; omega
      rw [hls] at hlv
      obtain ⟨la, lc, rfl⟩ := hlv.form
      rw [hlsl] at hlv ⊢
      have htkH := hidden htk
      have hsnH := hidden hsn
      have hlsnH := hidden hlsn
      have hlslH := hidden hlsl
      clear htk hsn hlsn hls hlsl htk1 hS hP hd1
      go_wp2_with fail
      refine hrd.mono ?_; rintro e W1 ⟨v1, o2, rfl, hs1, b, rfl, hb1, hh1, ho1⟩
      have hst1 := hst.trans (hs1.only L)
      have hlg1 := hlg.step hs1 (fun h => h) (fun h => h)
      have hlv1 := hlv.step hs1 (fun h => h) (fun h => h)
      have hpb : Bytes W1 o2 (.slice (some ⟨b, 0, none⟩) 512 512) P := .inr ⟨b, 0, 512, by rw [hplen], by omega, by simp [maxLen], by rw [ho1], lt_of_block hh1, range_whole hh1⟩
      have hdr : Step Nobody W1 o2 W1.drew o2 := (Step.refl _ _ _).drew
      have hst2 := hst1.trans (hdr.only L)
      have hlg2 := hlg1.step hdr (fun h => h) (fun h => h)
      have hlv2 := hlv1.step hdr (fun h => h) (fun h => h)
      have hpb2 := hpb.step hdr (fun h => h)
      have hq1 := hpb2.part 0 8 (by omega) (by omega)
      have hq2 := hpb2.part 504 512 (by omega) (by omega)
      simp only [List.drop_zero, Nat.zero_add, Nat.sub_zero, Nat.reduceSub] at hq1 hq2
      rw [List.take_of_length_le (i := 8) (l := P.drop 504) (by simp; omega)] at hq2
      have hheld := hlg2.held
      obtain ⟨-, -, -, d3, -, -, -⟩ := hheld
      simp only [LogM.raw] at d3
      clear hrd hst hlg hlv hs1 hst1 hlg1 hlv1 hpb hdr
      go_wp2_with fail
      have f3 : W1.drew.frozen? ⟨p, 3, none⟩ = false := by obtain ⟨_, _, _, hf, -⟩ := hlg2.open; exact hf 3
      have hn1 := lnumber_any hq1 (by simp; omega)
      have hn2 := lnumber_any hq2 (by simp; omega)
      clear hq1 hq2
      obtain ⟨A, hA⟩ : ∃ A, num (P.take 8) = A := ⟨_, rfl⟩
      obtain ⟨B, hB⟩ : ∃ B, num (P.drop 504) = B := ⟨_, rfl⟩
      rw [hA] at hn1
      rw [hB] at hn2
      have hsn := hsnH.out
      rw [hA, hB] at hsn
      have hsnH := hidden hsn
      clear hsn hA hB
      refine wp_region_g (fun i w' => i < 17 ∨ 18 ≤ i → w'.cell? ⟨p, 3, none⟩ = some (.int .u64 (S.toNat : Int))) (by kernel_rfl) ?_
      refine wpAnyG_take (i := 0) (St := (fun _ => True)) (v := ?_) rfl (by kernel_rfl) (by kernel_rfl) (by kernel_rfl) (fun _ _ _ _ => trivial) (fun _ _ _ h => h) (Or.inl ⟨by rfl, ?_⟩) (trivial) ?_
      rotate_left
      · intro w hSw; ((try dsimp only at hSw); go_simp; (try with_reducible rfl))
      simp only [Act.put, List.setIfInBounds_toArray, List.set_cons_zero, List.set_cons_succ]
      refine wpAnyG_take (i := 1) (St := (fun _ => True)) (v := ?_) rfl (by kernel_rfl) (by kernel_rfl) (by kernel_rfl) (fun _ _ _ _ => trivial) (fun _ _ _ h => h) (Or.inl ⟨by rfl, ?_⟩) (trivial) ?_
      rotate_left
      · intro w hSw; ((try dsimp only at hSw); go_simp; (try with_reducible rfl))
      simp only [Act.put, List.setIfInBounds_toArray, List.set_cons_zero, List.set_cons_succ]
      refine wpAnyG_take (i := 2) (St := (fun _ => True)) (v := ?_) rfl (by kernel_rfl) (by kernel_rfl) (by kernel_rfl) (fun _ _ _ _ => trivial) (fun _ _ _ h => h) (Or.inl ⟨by rfl, ?_⟩) (trivial) ?_
      rotate_left
      · intro w hSw; ((try dsimp only at hSw); go_simp; (try with_reducible rfl))
      simp only [Act.put, List.setIfInBounds_toArray, List.set_cons_zero, List.set_cons_succ]
      refine wpAnyG_take (i := 3) (St := (fun _ => True)) (v := ?_) rfl (by kernel_rfl) (by kernel_rfl) (by kernel_rfl) (fun _ _ _ _ => trivial) (fun _ _ _ h => h) (Or.inl ⟨by rfl, ?_⟩) (trivial) ?_
      rotate_left
      · intro w hSw; ((try dsimp only at hSw); go_simp; (try with_reducible rfl))
      simp only [Act.put, List.setIfInBounds_toArray, List.set_cons_zero, List.set_cons_succ]
      refine wpAnyG_take (i := 4) (St := (fun w' => w'.cell? ⟨p, 3, none⟩ = some (.int .u64 (S.toNat : Int)))) (v := ?_) rfl (by kernel_rfl) (by kernel_rfl) (by kernel_rfl) (fun j w hd h => h (dep_out (lo := 17) (hi := 18) (by kernel_rfl) j hd)) (fun _ _ _ h => h) (Or.inl ⟨by rfl, ?_⟩) (d3) ?_
      rotate_left
      · intro w hSw; ((try dsimp only at hSw); go_simp; (try with_reducible rfl))
      simp only [Act.put, List.setIfInBounds_toArray, List.set_cons_zero, List.set_cons_succ]
      refine wpAnyG_take (i := 5) (St := (fun _ => True)) (v := ?_) rfl (by kernel_rfl) (by kernel_rfl) (by kernel_rfl) (fun _ _ _ _ => trivial) (fun _ _ _ h => h) (Or.inl ⟨by rfl, ?_⟩) (trivial) ?_
      rotate_left
      · intro w hSw; ((try dsimp only at hSw); go_simp; (try with_reducible rfl))
      simp only [Act.put, List.setIfInBounds_toArray, List.set_cons_zero, List.set_cons_succ]
      refine wpAnyG_take (i := 6) (St := (fun _ => True)) (v := ?_) rfl (by kernel_rfl) (by kernel_rfl) (by kernel_rfl) (fun _ _ _ _ => trivial) (fun _ _ _ h => h) (Or.inl ⟨by rfl, ?_⟩) (trivial) ?_
      rotate_left
      · intro w hSw; ((try dsimp only at hSw); go_simp; (try with_reducible rfl))
      simp only [Act.put, List.setIfInBounds_toArray, List.set_cons_zero, List.set_cons_succ]
      refine wpAnyG_take (i := 8) (St := (fun _ => True)) (v := ?_) rfl (by kernel_rfl) (by kernel_rfl) (by kernel_rfl) (fun _ _ _ _ => trivial) (fun _ _ _ h => h) (Or.inl ⟨by rfl, ?_⟩) (trivial) ?_
      rotate_left
      · intro w hSw; ((try dsimp only at hSw); go_simp; (try with_reducible rfl))
      simp only [Act.put, List.setIfInBounds_toArray, List.set_cons_zero, List.set_cons_succ]
      refine wpAnyG_take (i := 9) (St := (fun _ => True)) (v := ?_) rfl (by kernel_rfl) (by kernel_rfl) (by kernel_rfl) (fun _ _ _ _ => trivial) (fun _ _ _ h => h) (Or.inl ⟨by rfl, ?_⟩) (trivial) ?_
      rotate_left
      · intro w hSw; ((try dsimp only at hSw); go_simp; (try with_reducible rfl))
      simp only [Act.put, List.setIfInBounds_toArray, List.set_cons_zero, List.set_cons_succ]
      refine wpAnyG_take (i := 10) (St := (fun _ => True)) (v := ?_) rfl (by kernel_rfl) (by kernel_rfl) (by kernel_rfl) (fun _ _ _ _ => trivial) (fun _ _ _ h => h) (Or.inl ⟨by rfl, ?_⟩) (trivial) ?_
      rotate_left
      · intro w hSw; ((try dsimp only at hSw); go_simp; (try with_reducible rfl))
      simp only [Act.put, List.setIfInBounds_toArray, List.set_cons_zero, List.set_cons_succ]
      refine wpAnyG_take (i := 11) (St := (fun _ => True)) (v := ?_) rfl (by kernel_rfl) (by kernel_rfl) (by kernel_rfl) (fun _ _ _ _ => trivial) (fun _ _ _ h => h) (Or.inl ⟨by rfl, ?_⟩) (trivial) ?_
      rotate_left
      · intro w hSw; ((try dsimp only at hSw); go_simp; (try with_reducible rfl))
      simp only [Act.put, List.setIfInBounds_toArray, List.set_cons_zero, List.set_cons_succ]
      rw [wrap_i64 (n := 504) (by omega) (by omega)]
      refine wpAnyG_take (i := 12) (St := (fun _ => True)) (v := ?_) rfl (by kernel_rfl) (by kernel_rfl) (by kernel_rfl) (fun _ _ _ _ => trivial) (fun _ _ _ h => h) (Or.inl ⟨by rfl, ?_⟩) (trivial) ?_
      rotate_left
      · intro w hSw; ((try dsimp only at hSw); go_simp; (try with_reducible rfl))
      simp only [Act.put, List.setIfInBounds_toArray, List.set_cons_zero, List.set_cons_succ]
      refine wpAnyG_one (i := 7) rfl (by kernel_rfl) ?_
      go_wp2_with fail
      refine hn1.mono ?_; rintro e w' ⟨rfl, rfl⟩
      go_wp2_with fail
      refine ⟨.inl trivial, ?_⟩
      refine wpAnyG_one (i := 13) rfl (by kernel_rfl) ?_
      go_wp2_with fail
      refine hn2.mono ?_; rintro e w' ⟨rfl, rfl⟩
      go_wp2_with fail
      refine ⟨.inl trivial, ?_⟩
      refine wpAnyG_take (i := 14) (St := (fun _ => True)) (v := .int .u64 ((LogM.umax (LogM.umax S A) B).toNat : Int)) rfl (by kernel_rfl) (by kernel_rfl) (by kernel_rfl) (fun _ _ _ _ => trivial) (fun _ _ _ h => h) (Or.inl ⟨by rfl, ?_⟩) (trivial) ?_
      · intro w hSw; (try dsimp only at hSw); go_simp; exact umax3_int S A B
      simp only [Act.put, List.setIfInBounds_toArray, List.set_cons_zero, List.set_cons_succ]
      refine wpAnyG_take (i := 15) (St := (fun _ => True)) (v := ?_) rfl (by kernel_rfl) (by kernel_rfl) (by kernel_rfl) (fun _ _ _ _ => trivial) (fun _ _ _ h => h) (Or.inl ⟨by rfl, ?_⟩) (trivial) ?_
      rotate_left
      · intro w hSw; ((try dsimp only at hSw); go_simp; (try with_reducible rfl))
      simp only [Act.put, List.setIfInBounds_toArray, List.set_cons_zero, List.set_cons_succ]
      refine wpAnyG_take (i := 16) (St := (fun _ => True)) (v := ?_) rfl (by kernel_rfl) (by kernel_rfl) (by kernel_rfl) (fun _ _ _ _ => trivial) (fun _ _ _ h => h) (Or.inl ⟨by rfl, ?_⟩) (trivial) ?_
      rotate_left
      · intro w hSw; ((try dsimp only at hSw); go_simp; (try with_reducible rfl))
      simp only [Act.put, List.setIfInBounds_toArray, List.set_cons_zero, List.set_cons_succ]
      refine wpAnyG_one (i := 17) rfl (by kernel_rfl) ?_
      go_wp2_with fail
      refine ⟨.inr (fun h => by rcases h with h | h <;> omega), ?_⟩
      refine wpAnyG_done (by kernel_rfl) ?_ _
      clear hn1 hn2
      obtain ⟨M, hM⟩ : ∃ M, LogM.umax (LogM.umax S A) B = M := ⟨_, rfl⟩
      rw [hM]
      have hWc : (W1.setCell ⟨p, 3, none⟩ (.int .u64 (M.toNat : Int))).drew = W1.drew.setCell ⟨p, 3, none⟩ (.int .u64 (M.toNat : Int)) := rfl
      rw [hWc]
      have hop : o2 p = (L, 0) := by obtain ⟨_, _, _, _, _, h, _⟩ := hlg2; exact h
      have hse := hlg2.setStep 3 (.int .u64 (M.toNat : Int))
      have hlg3 := hlg2.set (m' := LogM.raw f n M) hL 3 (.int .u64 (M.toNat : Int)) (fun rv => rfl) rfl hlg2.wf
      have hst3 := hst2.trans hse
      have hlv3 := hlv2.set hL ⟨p, 3, none⟩ (.int .u64 (M.toNat : Int)) (by rw [hop]; simp) (by rw [hop])
      have hpb3 := hpb2.step hse hN
      have hsnM : Hid (LogM.newest (ps.take (k + 1)) = M) := hidden (by rw [hsnH.out, hM])
      clear hM hWc hse hlg2 hst2 hlv2 hpb2 d3 f3 hsnH hh1 hb1 ho1
      generalize W1.drew.setCell ⟨p, 3, none⟩ (.int .u64 (M.toNat : Int)) = W2 at *
      have hsd := said_any hpb3 hplen
      obtain ⟨x, okb, hx⟩ : ∃ x okb, saidL P = (x, okb) := ⟨_, _, rfl⟩
      rw [hx] at hsd
      have hxH := hidden hx
      clear hx hpb3
      go_wp2_with fail
      refine hsd.mono ?_; rintro e W3 ⟨v3, o3, rfl, hs3, bv, rfl, hbv⟩
      have hst4 := hst3.trans (hs3.only L)
      have hlg4 := hlg3.step hs3 (fun h => h) (fun h => h)
      have hlv4 := hlv3.step hs3 (fun h => h) (fun h => h)
      have hal := hidden (run_alloc_zero (P := Try.prog) W3 139 _ zc139)
      have hsw := setCells_alloc_whole W3 #[.int .u64 0, .int .i64 0, .int .i64 0, .slice none 0 0] 139 (leafV x bv) rfl
      obtain ⟨hso, -⟩ := run_store_agg (P := Try.prog) (ty := 139) (vs := leafV x bv) (heap_alloc_new W3 (.cells [.int .u64 0, .int .i64 0, .int .i64 0, .slice none 0 0].toArray 139)) rfl (by kernel_rfl) (one_leafV hbv)
      rw [hsw] at hso
      have hsoH := hidden hso
      have hsa := (Step.refl Nobody W3 o3).alloc (.cells (leafV x bv).toArray 139) (0, 0)
      have hxb : (W3.alloc (.cells (leafV x bv).toArray 139)).heap[W3.heap.size]? = some (.cells (leafV x bv).toArray 139 (0, 0)) := heap_alloc_new W3 _
      have hst5 := hst4.trans (hsa.only L)
      have hlg5 := hlg4.step hsa (fun h => h) (fun h => h)
      have hlv5 := hlv4.step hsa (fun h => h) (fun h => h)
      have hbv5 := hbv.step hsa (fun h => h)
      clear hsw hso hst4 hst3 hlg4 hlg3 hlv4 hlv3 hs3 hsd hbv
      have hone := one_leafV hbv5
      have hW4 : ∃ W4, W3.alloc (.cells (leafV x bv).toArray 139) = W4 := ⟨_, rfl⟩
      obtain ⟨W4, hW4⟩ := hW4
      have hld := hidden (load139 (range_whole (w := W4) (b := W3.heap.size) (cs := leafV x bv) (by rw [← hW4]; exact hxb)))
      have hbs := hidden (buildSlice136 W4 x bv hone)
      rw [hW4] at hsoH hst5 hlg5 hlv5 hbv5 hxb
      generalize tagAt o3 W3.heap.size (0, 0) = o4 at *
      -- the row grows
      have hsA := (Step.refl Nobody W4 o4).alloc (.cells (leafV x bv).toArray 139) (0, 0)
      have hst6 := hst5.trans (hsA.only L)
      have hlg6 := hlg5.step hsA (fun h => h) (fun h => h)
      have hlv6 := hlv5.step hsA (fun h => h) (fun h => h)
      have hbv6 := hbv5.step hsA (fun h => h)
      have hpW : p ≤ (W4.alloc (.cells (leafV x bv).toArray 139)).heap.size := by have := hlg6.lt; omega
      obtain ⟨v', W5, o5, hrun, hlv7, hs7, hkp⟩ := hlv6.append hpW hL (by rw [hlslH.out]; omega) (heap_alloc_new W4 (.cells (leafV x bv).toArray 139)) hbv6
      have hst7 := hst6.trans hs7
      have hlg7 : LogAt W5 o5 L p pd (LogM.raw f n M) := by
        obtain ⟨rv, vs, g1, g2, g3, g4, g5, g6⟩ := hlg6
        have hpl := lt_of_block g1
        have hne : Value.ownBlock (.slice la k lc) ≠ some p := by
          intro hx
          obtain ⟨_, _, _, q3⟩ := hlv6
          have := q3 p hx
          rw [g4] at this; simp at this
        refine ⟨rv, vs, (hkp p hne hpl).trans g1, ownsRow_same g2 fun k' hk' => hkp k' ?_ (g2.lt k' hk').2, g3.step hs7 (fun h => hL h.symm), (hs7.own p hpl).trans g4, fun k' hk' => (hs7.own k' (g2.lt k' hk').2).trans (g5 k' hk'), g6⟩
        intro hx
        obtain ⟨_, _, _, q3⟩ := hlv6
        have h1 := q3 k' hx
        rw [g5 k' hk'] at h1
        simp at h1
      have hrunH := hidden hrun
      have hE' : okb = true → Hid (E = if t < k + 1 then t else n) := by
        intro hok; subst hok
        have hi := htkH.out
        rw [hxH.out] at hi
        refine hidden ?_
        rw [hE.out]
        by_cases h1 : t < k
        · rw [if_pos h1, if_pos (by omega)]
        · have := (hi (by omega)).1 rfl
          rw [if_neg h1, if_neg (by omega)]
      have hE0 : okb = false → (t < k → (¬ (k : Int) < (E : Int)) ∧ Hid (E = if t < k + 1 then t else n)) ∧ (¬ t < k → (k : Int) < (E : Int) ∧ Hid (k = if t < k + 1 then t else n)) := by
        intro hok; subst hok
        have hi := htkH.out
        rw [hxH.out] at hi
        have hEE := hE.out
        refine ⟨fun h1 => ?_, fun h1 => ?_⟩
        · rw [if_pos h1] at hEE
          exact ⟨by omega, hidden (by rw [if_pos (by omega)]; exact hEE)⟩
        · rw [if_neg h1] at hEE
          have h2 : ¬ k < t := fun h => by have := (hi (by omega)).2 h; cases this
          exact ⟨by omega, hidden (by rw [if_pos (by omega)]; omega)⟩
      have hrel : ∀ E', Hid (E' = if t < k + 1 then t else n) → Hid (∃ (k' E'' : Nat) (o' : Own), k' ≤ n ∧ Value.int .i64 ((k : Int) + 1) = .int .i64 k' ∧ Value.int .i64 (E' : Int) = .int .i64 (E'' : Int) ∧ Hid (E'' = if t < k' then t else n) ∧ Step (Only L) w o W5 o' ∧ LogAt W5 o' L p pd (LogM.raw f n (LogM.newest (ps.take k'))) ∧ LvRow W5 o' L p v' ((ps.take k').map fun p => (saidL p).1)) := fun E' hE' =>
        hidden ⟨k + 1, E', o5, hlt, by rw [show (k : Int) + 1 = ((k + 1 : Nat) : Int) from by omega], rfl, hE', hst7, by rw [hsnM.out]; exact hlg7, by rw [hlsnH.out, hxH.out]; exact hlv7⟩
      have hrelH := hidden hrel
      rw [hW4] at *
      clear hrun hrel hlg7 hst7 hs7 hlv7 hlv6 hlg6 hst6 hsA hbv6 hst5 hlg5 hlv5 hbv5 hone hsa hkp hpW
      cases hok : okb with
      | true =>
        rw [hok] at hxH
        have hq := hE' hok
        clear hok
        have hr := hrelH.out E hq
        clear hE0 hE' hrelH
        go_wp2_with (first
          | ((with_reducible apply lit_load); exact hld.out; simp only [Act.put, List.setIfInBounds_toArray, List.set_cons_zero, List.set_cons_succ])
          | ((with_reducible apply lit_alloc); exact hal.out; simp only [Act.put, List.setIfInBounds_toArray, List.set_cons_zero, List.set_cons_succ])
          | ((with_reducible apply lit_store); exact hsoH.out; simp only [Act.put])
          | ((with_reducible apply lit_buildSlice #[(0, .agg (leafV x bv).toArray)] rfl); exact hbs.out; simp only [Act.put, List.setIfInBounds_toArray, List.set_cons_zero, List.set_cons_succ])
          | ((with_reducible apply lit_append); exact hrunH.out; simp only [Act.put, List.setIfInBounds_toArray, List.set_cons_zero, List.set_cons_succ]))
        go_roundw
        case rel => exact hr.out
        case measure => simp [intOf]; omega
      | false =>
        rw [hok] at hxH
        have hq := hE0 hok
        clear hok
        by_cases ht : t < k
        · obtain ⟨q1, q2⟩ := hq.1 ht
          clear hq ht
          have hr := hrelH.out E q2
          clear hE0 hE' hrelH
          go_wp2_with (first
          | ((with_reducible apply lit_load); exact hld.out; simp only [Act.put, List.setIfInBounds_toArray, List.set_cons_zero, List.set_cons_succ])
          | ((with_reducible apply lit_alloc); exact hal.out; simp only [Act.put, List.setIfInBounds_toArray, List.set_cons_zero, List.set_cons_succ])
          | ((with_reducible apply lit_store); exact hsoH.out; simp only [Act.put])
          | ((with_reducible apply lit_buildSlice #[(0, .agg (leafV x bv).toArray)] rfl); exact hbs.out; simp only [Act.put, List.setIfInBounds_toArray, List.set_cons_zero, List.set_cons_succ])
          | ((with_reducible apply lit_append); exact hrunH.out; simp only [Act.put, List.setIfInBounds_toArray, List.set_cons_zero, List.set_cons_succ]))
          go_roundw
          case rel => exact hr.out
          case measure => simp [intOf]; omega
        · obtain ⟨q1, q2⟩ := hq.2 ht
          clear hq ht
          have hr := hrelH.out k q2
          clear hE0 hE' hrelH
          go_wp2_with (first
          | ((with_reducible apply lit_load); exact hld.out; simp only [Act.put, List.setIfInBounds_toArray, List.set_cons_zero, List.set_cons_succ])
          | ((with_reducible apply lit_alloc); exact hal.out; simp only [Act.put, List.setIfInBounds_toArray, List.set_cons_zero, List.set_cons_succ])
          | ((with_reducible apply lit_store); exact hsoH.out; simp only [Act.put])
          | ((with_reducible apply lit_buildSlice #[(0, .agg (leafV x bv).toArray)] rfl); exact hbs.out; simp only [Act.put, List.setIfInBounds_toArray, List.set_cons_zero, List.set_cons_succ])
          | ((with_reducible apply lit_append); exact hrunH.out; simp only [Act.put, List.setIfInBounds_toArray, List.set_cons_zero, List.set_cons_succ]))
          go_roundw
          case rel => exact hr.out
          case measure => simp [intOf]; omega
    · obtain rfl : n = k := by omega
      have hEt : E = t := by
        rw [hE.out]
        by_cases h1 : t < n
        · rw [if_pos h1]
        · rw [if_neg h1]; omega
      rw [hEt]
      have htake : ps.take n = ps := List.take_of_length_le (by rw [hplH.out]; exact Nat.le_refl _)
      rw [htake] at hlg hlv
      have hlT : (ps.map fun p => (saidL p).1).take t = LogM.leavesOf ps := by
        unfold LogM.leavesOf
        rw [List.prefix_iff_eq_take.1 (List.takeWhile_prefix (fun p => (saidL p).2) (l := ps)), htH.out, List.map_take]
      have hlen : (ps.map fun p => (saidL p).1).length = n := by rw [List.length_map]; exact hplH.out
      have hlT' : (LogM.leavesOf ps).length = t := by rw [← hlT, List.length_take, hlen]; omega
      have hOf : LogM.ofPages f ps = { LogM.raw f n (LogM.newest ps) with headed := LogM.isHead (LogM.leavesOf ps), end' := if LogM.isHead (LogM.leavesOf ps) then (LogM.readAll (LogM.leavesOf ps)).1 else 1, records := if LogM.isHead (LogM.leavesOf ps) then (LogM.readAll (LogM.leavesOf ps)).2.2 else [] } := by
        unfold LogM.ofPages LogM.raw; rw [hplH.out]
      have hbnd : ∀ x ∈ LogM.leavesOf ps, x.bytes.length ≤ 480 ∧ x.of' < 65536 ∧ x.at' < 65536 := by
        intro x hx
        obtain ⟨j, hj⟩ := List.mem_iff_getElem?.1 hx
        obtain ⟨q, _, hok, rfl⟩ := LogM.leaves_get hj
        obtain ⟨h1, _, h3, _⟩ := saidL_true hok
        rw [h1]
        have hsm : ∀ l : List UInt8, l.length ≤ 2 → (num l).toNat < 65536 := fun l hl => by
          rw [num_small (by omega)]
          exact Nat.lt_of_lt_of_le (numN_lt l) (by have := Nat.pow_le_pow_right (n := 256) (by omega) hl; omega)
        exact ⟨leafOf_len q h3, hsm _ (by simp; omega), hsm _ (by simp; omega)⟩
      have hOfH := hidden hOf
      have hbndH := hidden hbnd
      clear hOf hbnd
      obtain ⟨S, hS⟩ : ∃ S, LogM.newest ps = S := ⟨_, rfl⟩
      rw [hS] at hlg
      have hheld := hlg.held
      obtain ⟨-, -, -, d3, -, -, -⟩ := hheld
      simp only [LogM.raw] at d3
      have hSH := hidden hS
      clear hS hE hEt
      by_cases hS1 : S = BitVec.allOnes 64
      · have hSi : (S.toNat : Int) = 18446744073709551615 := by rw [hS1]; rfl
        rw [hSi] at d3
        have hfinH : Hid (LogM.newest ps = BitVec.allOnes 64) := hidden (by rw [hSH.out]; exact hS1)
        clear hS1 hlv hlg
        go_wp2_with fail
        go_ret2
        exact ⟨_, o1, rfl, hst, fun _ => rfl, fun h => absurd hfinH.out h⟩
      · have hSi : ((S.toNat : Int) == 18446744073709551615) = false := by
          rw [beq_eq_false_iff_ne]; intro h
          exact hS1 (BitVec.eq_of_toNat_eq (by rw [BitVec.toNat_allOnes]; omega))
        obtain ⟨la, lc, rfl⟩ := hlv.form
        rw [hlen] at hlv ⊢
        have hNS : Hid (LogM.newest ps ≠ BitVec.allOnes 64) := hidden (by rw [hSH.out]; exact hS1)
        clear hS1
        by_cases ht0 : t = 0
        · -- no leaf at all
          have hl0 : LogM.leavesOf ps = [] := List.eq_nil_of_length_eq_zero (by rw [hlT']; exact ht0)
          have f4 : wr.frozen? ⟨p, 4, none⟩ = false := by obtain ⟨_, _, _, hf, -⟩ := hlg.open; exact hf 4
          obtain ⟨_, _, ⟨-, -, -, -, d4, -⟩, -⟩ := hlg.open
          simp only [LogM.raw] at d4
          have hsx := hlg.setStep 4 (.bool false)
          have hlx := hlg.set (m' := LogM.raw f n S) hL 4 (.bool false) (fun rv => rfl) rfl hlg.wf
          have hstx := hst.trans hsx
          have hO : LogM.ofPages f ps = LogM.raw f n S := by rw [hOfH.out, hl0, hSH.out]; rfl
          have hxH := hidden (show Step (Only L) w o _ o1 ∧ LogAt _ o1 L p pd (LogM.ofPages f ps) from ⟨hstx, by rw [hO]; exact hlx⟩)
          subst ht0
          clear hO hlx hsx hstx hlg hlv hst hl0 hlT hlT'
          go_wp2_with fail
          go_ret2
          exact ⟨_, o1, rfl, hxH.out.1, fun h => absurd h hNS.out, fun _ => ⟨p, by omega, rfl, hxH.out.2⟩⟩
        · have ht1 : 1 ≤ t := by omega
          obtain ⟨g, cap, hgv, hcap, hcm, hgp, hog, -, hlvs⟩ := hlv.lvs hL t ht1 (by rw [hlen]; exact htn)
          rw [hlT] at hlvs
          rw [hlen] at hgv hcap
          simp only [Value.slice.injEq, true_and] at hgv
          obtain ⟨rfl, rfl⟩ := hgv
          obtain ⟨rv, vs, g1, g2, g3, g4, g5, g6⟩ := hlg
          have hpg : p ≠ g := by rintro rfl; rw [g4] at hog; simp at hog
          have hvs : vs = [] := List.eq_nil_of_length_eq_zero (by simpa [LogM.raw] using g2.1)
          subst hvs
          have hlg2 : LogAt wr (tagAt o1 g (0, 0)) L p pd (LogM.raw f n S) :=
            ⟨rv, [], g1, g2, RowsT.nil _ _, by rw [tagAt_other _ _ hpg]; exact g4, fun k hk => by
              rw [tagAt_other _ _ (by rintro rfl; rw [g5 _ hk] at hog; simp at hog)]; exact g5 k hk, g6⟩
          have hst2 : Step (Only L) w o wr (tagAt o1 g (0, 0)) := ⟨hst.os, hst.tape, hst.output, hst.size, fun k hk => by rw [tagAt_other _ _ (by omega)]; exact hst.own k hk, hst.block⟩
          generalize tagAt o1 g (0, 0) = o2 at *
          obtain ⟨x0, r, hxr⟩ : ∃ x0 r, LogM.leavesOf ps = x0 :: r := by
            cases hl : LogM.leavesOf ps with
            | nil => rw [hl] at hlT'; simp at hlT'; omega
            | cons x0 r => exact ⟨x0, r, rfl⟩
          have hatt := hlvs.at
          rw [hlT'] at hatt
          obtain ⟨b', off', cap', hv', -, -, hat⟩ := hatt
          simp only [Value.slice.injEq, Option.some.injEq, Addr.mk.injEq] at hv'
          obtain ⟨⟨rfl, rfl, -⟩, -, rfl⟩ := hv'
          obtain ⟨bv0, hb0, hr0⟩ := hat 0 x0 (by rw [hxr]; rfl)
          obtain ⟨a0, c0, rfl⟩ := slc_form hb0
          have e1 := hr0 1 _ rfl
          have e2 := hr0 2 _ rfl
          have e3 := hr0 3 _ rfl
          simp only [Nat.zero_mul, Nat.add_zero, Nat.zero_add] at e1 e2 e3
          have hgl := hlvs
          have f4 : wr.frozen? ⟨p, 4, none⟩ = false := by obtain ⟨_, _, _, hf, -⟩ := hlg2.open; exact hf 4
          obtain ⟨_, _, ⟨-, -, -, -, d4, -⟩, -⟩ := hlg2.open
          simp only [LogM.raw] at d4
          have hih : LogM.isHead (LogM.leavesOf ps) = (x0.at' == 0 && x0.of' == 0 && x0.bytes.length == 0) := by rw [hxr]; rfl
          obtain ⟨A, hA⟩ : ∃ A, x0.at' = A := ⟨_, rfl⟩
          obtain ⟨F, hF⟩ : ∃ F, x0.of' = F := ⟨_, rfl⟩
          obtain ⟨N, hNb⟩ : ∃ N, x0.bytes.length = N := ⟨_, rfl⟩
          rw [hA] at e1
          rw [hF] at e2
          rw [hNb] at e3
          rw [hA, hF, hNb] at hih
          have hsx := hlg2.setStep 4 (.bool false)
          have hlx := hlg2.set (m' := LogM.raw f n S) hL 4 (.bool false) (fun rv => rfl) rfl hlg2.wf
          have hxH : LogM.isHead (LogM.leavesOf ps) = false → Hid (Step (Only L) w o _ o2 ∧ LogAt _ o2 L p pd (LogM.ofPages f ps)) := fun hh =>
            hidden ⟨hst2.trans hsx, by rw [show LogM.ofPages f ps = LogM.raw f n S from by rw [hOfH.out, hh, hSH.out]; rfl]; exact hlx⟩
          have hti : (0 : Int) < (t : Int) := by omega
          have hni : (0 : Int) < (n : Int) := by omega
          have hihH := hidden hih
          clear hih hxr hA hF hNb hr0 hat hb0 g1 g2 g3 g4 g5 g6 hst hog hlv hlx hsx
          by_cases hA0 : A = 0
          · subst hA0
            by_cases hF0 : F = 0
            · subst hF0
              by_cases hN0 : N = 0
              · subst hN0
                have hih2 : LogM.isHead (LogM.leavesOf ps) = true := by rw [hihH.out]; rfl
                have hsx := hlg2.setStep 4 (.bool true)
                have hlx := hlg2.set (m' := { LogM.raw f n S with headed := true }) hL 4 (.bool true) (fun rv => rfl) rfl hlg2.wf
                have hlvx := hlvs.step hsx hN
                have hread := lread_any hL hlx (LogM.leavesOf ps) _ hlvx (by rw [hlT']; exact ht1) (by rw [hlT']; exact htn) hbndH.out rfl rfl
                have hstx := hst2.trans hsx
                have hO : Hid (({ ({ LogM.raw f n S with headed := true } : LogM) with records := (LogM.readAll (LogM.leavesOf ps)).2.2, end' := (LogM.readAll (LogM.leavesOf ps)).1 } : LogM) = LogM.ofPages f ps) := hidden (by
                  rw [hOfH.out, hih2, hSH.out]; rfl)
                have c4 : (wr.setCell ⟨p, 4, none⟩ (.bool true)).cell? ⟨p, 4, none⟩ = some (.bool true) := by
                  obtain ⟨_, _, ⟨-, -, -, -, q4, -⟩, -⟩ := hlx.open; exact q4
                have htc : (t : Int) ≤ (lc : Int) := by omega
                clear hxH hlg2 hst2 hlvs hgl hlx hsx hlvx hih2 hpg
                go_wp2_with fail
                refine hread.mono ?_; rintro e W6 ⟨v6, o6, rfl, hs6, rfl, hl6⟩
                have hl7 : LogAt W6 o6 L p pd (LogM.ofPages f ps) := by rw [← hO.out]; exact hl6
                have hx := hidden (And.intro (hstx.trans hs6) hl7)
                clear hread hl6 hl7 hs6 hstx
                go_wp2_with fail
                go_ret2
                exact ⟨_, o6, rfl, hx.out.1, fun h => absurd h hNS.out, fun _ => ⟨p, by omega, rfl, hx.out.2⟩⟩
              · have hz : ((N : Int) == 0) = false := by rw [beq_eq_false_iff_ne]; omega
                have hx := hxH (by rw [hihH.out]; simp [hN0])
                clear hxH hlg2 hst2 hlvs hgl hN0
                go_wp2_with fail
                go_ret2
                exact ⟨_, o2, rfl, hx.out.1, fun h => absurd h hNS.out, fun _ => ⟨p, by omega, rfl, hx.out.2⟩⟩
            · have hz : ((F : Int) == 0) = false := by rw [beq_eq_false_iff_ne]; omega
              have hx := hxH (by rw [hihH.out]; simp [hF0])
              clear hxH hlg2 hst2 hlvs hgl hF0
              go_wp2_with fail
              go_ret2
              exact ⟨_, o2, rfl, hx.out.1, fun h => absurd h hNS.out, fun _ => ⟨p, by omega, rfl, hx.out.2⟩⟩
          · have hz : ((A : Int) == 0) = false := by rw [beq_eq_false_iff_ne]; omega
            have hx := hxH (by rw [hihH.out]; simp [hA0])
            clear hxH hlg2 hst2 hlvs hgl hA0
            go_wp2_with fail
            go_ret2
            exact ⟨_, o2, rfl, hx.out.1, fun h => absurd h hNS.out, fun _ => ⟨p, by omega, rfl, hx.out.2⟩⟩
end
end Go.Proofs.YtfgggkheadfiaaaR
/- Plain laws: a log's acts while the power stays. No program in sight. -/
namespace Go.Proofs.YtfgggkheadfiaaaR
open Go Go.RowKit

theorem DiskM.length_donePages (f : Nat → Nat) (pages : List (List UInt8)) (row : List (Nat × List UInt8)) : (DiskM.donePages f pages row).length = pages.length := by
  have h1 : ∀ (l : List ((Nat × List UInt8) × Nat)) (ps : List (List UInt8)), (l.foldl (DiskM.doneOne f) ps).length = ps.length := by
    intro l
    induction l with
    | nil => intro ps; rfl
    | cons x r ih => intro ps; rw [List.foldl_cons, ih]; simp [DiskM.doneOne]
  exact h1 _ _
namespace LogM
/-- Power on, no countdown, nothing under way. -/
structure Up (s : LogM × DiskM) : Prop where
  ld : s.1.dead = false
  dd : s.2.dead = false
  left : s.2.left < 0
  fit : s.1.first + s.1.n ≤ s.2.pages.length
  n2 : 2 ≤ s.1.n
  e1 : 1 ≤ s.1.end'
  en : s.1.end' ≤ s.1.n
  row : s.2.row = []
/-- A disk that stands as another, but for what its pages hold. -/
def Like (d d' : DiskM) : Prop := d'.dead = d.dead ∧ d'.left = d.left ∧ d'.row = [] ∧ d'.pages.length = d.pages.length
theorem sync_up {d : DiskM} (hd : d.dead = false) (hl : d.left < 0) (hp : 0 < d.pages.length) : (d.sync).2 = 0 ∧ Like d d.sync.1 := by
  rw [DiskM.sync_in hd hp, if_neg (by omega)]
  refine ⟨rfl, ?_, ?_, rfl, ?_⟩
  · exact (DiskM.tick_same d).2.2
  · exact (DiskM.tick_left d).1 hl
  · show (DiskM.donePages _ d.tick.pages d.tick.row).length = _
    rw [DiskM.length_donePages, (DiskM.tick_same d).1]
theorem head_up {s : LogM × DiskM} (h : Up s) : ∃ d', head s = (({ s.1 with stamp := s.1.stamp + 1#64 }, d'), 0) ∧ Like s.2 d' := by
  obtain ⟨l, d⟩ := s
  obtain ⟨h1, h2, h3, h4, h5, h6, h7, h8⟩ := h
  simp only at h1 h2 h3 h4 h5 h6 h7 h8
  have hw := DiskM.write_in h2 (j := l.first) (by omega) (l := LeafM.page ⟨l.stamp + 1#64, 0, 0, []⟩) (LeafM.length_page (by simp))
  rw [if_neg (by omega)] at hw
  obtain ⟨t1, t2, t3⟩ := DiskM.tick_same d
  obtain ⟨d1, hd1⟩ : ∃ d1 : DiskM, { d.tick with row := d.row ++ [(l.first, LeafM.page ⟨l.stamp + 1#64, 0, 0, []⟩)] } = d1 := ⟨_, rfl⟩
  have hw' : d.write (l.first : Int) (LeafM.page ⟨l.stamp + 1#64, 0, 0, []⟩) = (d1, 0) := by rw [hw, ← hd1]
  have e1 : d1.dead = d.dead := by rw [← hd1]; exact t3
  have e2 : d1.left = d.left := by rw [← hd1]; exact (DiskM.tick_left d).1 h3
  have e3 : d1.pages.length = d.pages.length := by rw [← hd1]; exact congrArg List.length t1
  have hs := sync_up (d := d1) (e1.trans h2) (by omega) (by omega)
  refine ⟨d1.sync.1, ?_, ?_⟩
  · unfold head
    simp only [hw']
    rw [if_neg (by simp), hs.1]
  · obtain ⟨hs0, q1, q2, q3, q4⟩ := hs
    exact ⟨q1.trans e1, q2.trans e2, q3, q4.trans e3⟩
theorem put_up (l : LogM) (of' : Nat) (b : List UInt8) (k i : Nat) (d : DiskM) (hd : d.dead = false) (hl : d.left < 0) (hf : l.first + l.end' + i + k ≤ d.pages.length) :
    ∃ d', put l of' b k i d = (d', 0) ∧ d'.dead = false ∧ d'.left = d.left ∧ d'.pages.length = d.pages.length := by
  obtain ⟨m, d', q1, q2, q3, q4, q5, q6, q7⟩ := put_any l l.stamp rfl of' b k i d hd hf
  obtain ⟨hm, hl'⟩ := q6 hl
  subst hm
  exact ⟨d', by rw [q2, if_pos rfl], by rw [q5]; simp, hl', congrArg List.length q3⟩
theorem step3_up {s : LogM × DiskM} (h : Up s) (b : List UInt8) (hm : many b ≤ s.1.n - s.1.end') : ∃ d', step3 b s = (({ s.1 with stamp := s.1.stamp + 1#64 }, d'), 0) ∧ Like s.2 d' := by
  obtain ⟨l, d⟩ := s
  obtain ⟨h1, h2, h3, h4, h5, h6, h7, h8⟩ := h
  simp only at h1 h2 h3 h4 h5 h6 h7 h8 hm
  have hmp := many_pos b
  obtain ⟨d', hp, p1, p2, p3⟩ := put_up { l with stamp := l.stamp + 1#64 } (many b) b (many b) 0 d h2 h3 (by show l.first + l.end' + 0 + many b ≤ _; omega)
  have hs := sync_up (d := d') p1 (by omega) (by omega)
  refine ⟨d'.sync.1, ?_, ?_⟩
  · unfold step3
    simp only [hp]
    rw [if_neg (by simp), hs.1]
  · obtain ⟨hs0, q1, q2, q3, q4⟩ := hs
    exact ⟨q1.trans (p1.trans h2.symm), q2.trans p2, q3, q4.trans p3⟩
theorem commit_full {s : LogM × DiskM} (h1 : s.1.dead = false) (h2 : s.2.dead = false) (b : List UInt8) (hm : s.1.n - s.1.end' < many b) : commit b s = (s, 4) := by
  unfold commit alive
  rw [h1, h2]
  simp only [Bool.or_self, Bool.false_eq_true, if_false, steps, step1, if_pos hm, h1]
  obtain ⟨l, d⟩ := s
  cases l
  simp only at h1
  subst h1
  simp
theorem Up.like {s s' : LogM × DiskM} (h : Up s) (h1 : s'.1.dead = false) (hL : Like s.2 s'.2) (h2 : s'.1.n = s.1.n) (h3 : s'.1.first = s.1.first) (h4 : 1 ≤ s'.1.end') (h5 : s'.1.end' ≤ s.1.n) : Up s' := by
  obtain ⟨a1, a2, a3, a4, a5, a6, a7, a8⟩ := h
  obtain ⟨l1, l2, l3, l4⟩ := hL
  exact ⟨h1, by rw [l1]; exact a2, by rw [l2]; exact a3, by rw [h2, h3, l4]; exact a4, by rw [h2]; exact a5, h4, by rw [h2]; exact h5, l3⟩
theorem commit_up {s : LogM × DiskM} (h : Up s) (b : List UInt8) (hm : many b ≤ s.1.n - s.1.end') :
    ∃ s', commit b s = (s', 0) ∧ Up s' ∧ s'.1.records = s.1.records ++ [b] ∧ s'.1.end' = s.1.end' + many b ∧ s'.1.n = s.1.n ∧ s'.1.first = s.1.first ∧ s'.2.pages.length = s.2.pages.length := by
  obtain ⟨s2, hs2, hU2, e1, e2, e3, e4, e5⟩ : ∃ s2, step2 s = (s2, 0) ∧ Up s2 ∧ s2.1.records = s.1.records ∧ s2.1.end' = s.1.end' ∧ s2.1.n = s.1.n ∧ s2.1.first = s.1.first ∧ s2.2.pages.length = s.2.pages.length := by
    unfold step2
    cases hh : s.1.headed with
    | true => exact ⟨s, by simp, h, rfl, rfl, rfl, rfl, rfl⟩
    | false =>
      obtain ⟨d', hd', hL⟩ := head_up h
      refine ⟨({ s.1 with stamp := s.1.stamp + 1#64, headed := true }, d'), ?_, ?_, rfl, rfl, rfl, rfl, hL.2.2.2⟩
      · simp [hd']
      · exact h.like h.ld hL rfl rfl h.e1 h.en
  have hmp := many_pos b
  obtain ⟨d', hs3, hL⟩ := step3_up hU2 b (by rw [e2, e3]; exact hm)
  refine ⟨({ s2.1 with stamp := s2.1.stamp + 1#64, records := s2.1.records ++ [b], end' := s2.1.end' + many b }, d'), ?_, ?_, ?_, ?_, e3, e4, ?_⟩
  · unfold commit alive
    rw [h.ld, h.dd]
    simp only [Bool.or_self, Bool.false_eq_true, if_false, steps]
    have h1 : step1 b s = (s, 0) := by unfold step1; rw [if_neg (by omega)]
    rw [h1]
    simp only [ne_eq, not_true_eq_false, if_false]
    rw [hs2]
    simp only [not_true_eq_false, if_false]
    rw [hs3]
    simp [step4]
  · refine hU2.like hU2.ld hL rfl rfl ?_ ?_
    · show 1 ≤ s2.1.end' + many b; omega
    · show s2.1.end' + many b ≤ s2.1.n; rw [e2, e3]; have := h.en; omega
  · show s2.1.records ++ [b] = _; rw [e1]
  · show s2.1.end' + many b = _; rw [e2]
  · exact hL.2.2.2.trans e5
theorem reset_up {s : LogM × DiskM} (h : Up s) : ∃ s', reset s = (s', 0) ∧ Up s' ∧ s'.1.records = [] ∧ s'.1.end' = 1 ∧ s'.1.n = s.1.n ∧ s'.1.first = s.1.first ∧ s'.2.pages.length = s.2.pages.length := by
  obtain ⟨d', hd', hL⟩ := head_up h
  refine ⟨({ s.1 with stamp := s.1.stamp + 1#64, headed := true, records := [], end' := 1 }, d'), ?_, ?_, rfl, rfl, rfl, rfl, hL.2.2.2⟩
  · unfold reset alive
    rw [h.ld, h.dd]
    simp only [Bool.or_self, Bool.false_eq_true, if_false, steps, hd']
    simp [reset2]
  · exact h.like h.ld hL rfl rfl (Nat.le_refl _) (by have := h.n2; show 1 ≤ s.1.n; omega)
end LogM
end Go.Proofs.YtfgggkheadfiaaaR
/- The laws of layer 8: a new log; 'wakes', the example that each of them ends with. -/
namespace Go.Proofs.YtfgggkheadfiaaaR
open Go Go.RowKit
attribute [local go_sem ↓] Go.wp_at_zero Go.wp_at_succ

theorem seen_new (k : Nat) : LogM.seenPages (DiskM.new k) 0 k = List.replicate k DiskM.blank := by
  refine LogM.seenPages_ext (by simp) fun j hj => ?_
  rw [List.getElem?_replicate, if_pos hj]
  simp [DiskM.seen, DiskM.seenIn, DiskM.new, hj]
theorem blank_num : num (DiskM.blank.take 8) = 0#64 ∧ num (DiskM.blank.drop 504) = 0#64 := by decide +kernel
theorem newest_blank : ∀ k, LogM.newest (List.replicate k DiskM.blank) = 0#64
  | 0 => rfl
  | k + 1 => by
    have h := newest_blank k
    rw [List.replicate_succ']
    unfold LogM.newest at *
    rw [List.foldl_append, h]
    simp only [List.foldl_cons, List.foldl_nil, blank_num.1, blank_num.2]
    decide
theorem leaves_blank (k : Nat) : LogM.leavesOf (List.replicate k DiskM.blank) = [] := by
  cases k with
  | zero => rfl
  | succ k =>
    have h : (saidL DiskM.blank).2 = false := by unfold saidL; rw [if_pos (.inl blank_num.1)]
    unfold LogM.leavesOf
    rw [List.replicate_succ, List.takeWhile_cons_of_neg (by simp [h])]; rfl
theorem ofPages_blank (k : Nat) : LogM.ofPages 0 (List.replicate k DiskM.blank) = LogM.raw 0 k 0 := by
  unfold LogM.ofPages LogM.raw
  rw [leaves_blank, newest_blank, List.length_replicate]; rfl
theorem new_up {k : Nat} (h2 : 2 ≤ k) : LogM.Up (LogM.raw 0 k 0, DiskM.new k) :=
  ⟨rfl, rfl, by show (-1 : Int) < 0; omega, by show 0 + k ≤ (List.replicate k DiskM.blank).length; simp, h2, Nat.le_refl _, by show 1 ≤ k; omega, rfl⟩

set_option maxRecDepth 100000 in
set_option maxHeartbeats 1600000 in
theorem made_is {w : World} {o : Own} {L D : Nat} (hL : L ≠ 0) (hD : D ≠ 0) (hLD : L ≠ D) (k : Nat) (h2 : 2 ≤ k) (hk : k ≤ 2000) :
    Calls Try.prog 47 #[.int .i64 (k : Int)] w (Ret (Only L) w o fun v w' o' => ∃ pd p, w.heap.size ≤ pd ∧ w.heap.size ≤ p ∧ v = .tuple #[.pointer (some ⟨pd, 0, none⟩), .pointer (some ⟨p, 0, none⟩)] ∧ LD w' o' L D p pd (LogM.raw 0 k 0, DiskM.new k)) := by
  have hnew := new_ok k w o D (by omega) (by omega)
  go_enter Try.func47, Try.ntmps47
  go_wp2_with fail
  refine hnew.mono ?_; rintro e W1 ⟨v1, o1, rfl, hs1, pd, hpd, rfl, hd⟩
  have ho := open_yes hL hD hLD hd (by simp [DiskM.new]) rfl 0 k h2 hk (by simp [DiskM.new])
  rw [show ((0 : Nat) : Int) = 0 from rfl, seen_new] at ho
  clear hnew
  go_wp2_with fail
  refine ho.mono ?_; rintro e W2 ⟨v2, o2, rfl, hs2, hop⟩
  obtain ⟨p, hp, rfl, hl⟩ := hop.2 (by rw [newest_blank]; decide)
  rw [ofPages_blank] at hl
  have hd2 := hd.step hs2 (fun e => hLD e.symm)
  have hst := (hs1.only L).trans hs2
  have hsz := hs1.size
  clear ho hop
  go_wp2_with fail
  go_ret2
  exact ⟨_, o2, rfl, hst, pd, p, hpd, by omega, rfl, hl, hd2⟩

/-- Batches, as a law reads it. -/
theorem batches_is {w : World} {o : Own} {L p pd : Nat} {m : LogM} (h : LogAt w o L p pd m) (rs : List (List UInt8)) (hrs : m.records = rs) :
    Calls Try.prog 51 #[.pointer (some ⟨p, 0, none⟩)] w (Ret Nobody w o fun v w' o' => ∃ vs, w'.ownsRow w.heap.size 28 1 v rs.length vs ∧ RowsN w w' vs rs ∧ RowsB w' o' vs rs ∧ ∀ k, w.heap.size ≤ k → o' k = (0, 0)) := by
  refine (batches_any h).mono ?_
  rintro e w' ⟨v, vs, rfl, hb, hown, hrows⟩
  rw [hrs] at hown hrows
  have hs : Step Nobody w o w' (ext w o) := ⟨hb.os, hb.tape, hb.output, hb.size, fun k hk => if_pos hk, fun k hk _ => hb.block k hk⟩
  refine ⟨v, ext w o, rfl, hs, vs, hown, hrows, ⟨hrows.1, fun i x l hx hl => ?_⟩, fun k hk => if_neg (by omega)⟩
  have h1 := hrows.2 i x l hx hl
  exact own_bytes h1 (fun k hk => by unfold ext; rw [if_neg (by have := (h1.lt k hk).1; omega)])
theorem ownsRow_cell {w : World} {base : Nat} {v : Value} {n : Nat} {vs : List Value} (h : w.ownsRow base 28 1 v n vs) {i : Nat} {x : Value} (hx : vs[i]? = some x) : ∃ g c, v = .slice (some ⟨g, 0, none⟩) n c ∧ base ≤ g ∧ g < w.heap.size ∧ w.cell? ⟨g, i, none⟩ = some x := by
  have hi := (List.getElem?_eq_some_iff.1 hx).1
  rcases h.2 with ⟨_, h0⟩ | ⟨g, cap, cur, rfl, h1, h2, h3, h4, h5, h6⟩
  · have := h.1; omega
  · refine ⟨g, cap, rfl, h1, lt_of_block h2, ?_⟩
    rw [cell_of_block (cs := cur.toList) (E := 28) (fr := (0, 0)) (by simpa using h2)]
    rw [← h6, List.getElem?_take] at hx
    split at hx
    · exact hx
    · cases hx
/-- make([]byte, n). -/
theorem make_bytes (w : World) (n : Nat) (hn : n ≤ 1000000) : (Instr.makeSlice 28 (.int .i64 (n : Int)) (.int .i64 (n : Int))).run Try.prog w = .ok (.slice (some ⟨w.heap.size, 0, none⟩) n n) (w.alloc (.cells (bvs (List.replicate n 0)).toArray 5)) := by
  have hmk := run_make_zero (P := Try.prog) w 28 5 _ 1 1 Try.underlying28 inf5 rfl n (by omega) (by omega) .i64 .i64
  have hf : ∀ n : Nat, (List.replicate n [Value.int .u8 0]).flatten = bvs (List.replicate n 0) := by
    intro n
    induction n with
    | zero => rfl
    | succ n ih => rw [List.replicate_succ, List.replicate_succ, List.flatten_cons, ih]; rfl
  rw [hf] at hmk
  exact hmk
theorem bytes_marked (w : World) (o : Own) (l : List UInt8) (hl : l.length ≤ 1000000) : Bytes (w.alloc (.cells (bvs l).toArray 5 (l.length, l.length + 1))) (tagAt o w.heap.size (0, 0)) (.slice (some ⟨w.heap.size, 0, none⟩) l.length l.length) l :=
  .inr ⟨w.heap.size, 0, l.length, rfl, Nat.le_refl _, by simp [maxLen]; omega, by rw [tagAt_same], by simp, range_whole (fr := (l.length, l.length + 1)) (heap_alloc_new w _)⟩
/-- []byte("..."). -/
theorem conv_marked (w : World) (cs : List Value) (n c : Nat) : (convert 28 28 (.slice (some ⟨w.heap.size, 0, none⟩) n c)).run Try.prog (w.alloc (.cells cs.toArray 5)) = .ok (.slice (some ⟨w.heap.size, 0, none⟩) n c) (w.alloc (.cells cs.toArray 5 (cs.length, cs.length + 1))) := by
  have := Go.Lib.run_convert_bytes_const (P := Try.prog) w 28 5 cs.toArray n c Try.underlying28 Try.underlying5
  simpa using this
theorem room_is {w : World} {o : Own} {L p pd : Nat} {m : LogM} (h : LogAt w o L p pd m) (r : Nat) (hr : m.room = r) : Calls Try.prog 48 #[.pointer (some ⟨p, 0, none⟩)] w (Ret Nobody w o fun v _ _ => v = .int .i64 (r : Int)) := by
  have := room_any h; rw [hr] at this; exact this
theorem commit_is {w : World} {o : Own} {L D p pd : Nat} {s s' : LogM × DiskM} {e : Int} (hL : L ≠ 0) (hD : D ≠ 0) (hLD : L ≠ D) (h : LD w o L D p pd s) (hrow : s.2.row.length ≤ 700000) (b : List UInt8) (bv : Value) (hb : Bytes w o bv b) (hcapb : capLe bv) (hblen : b.length ≤ 200000000000000) (he : LogM.commit b s = (s', e)) :
    Calls Try.prog 40 #[.pointer (some ⟨p, 0, none⟩), bv] w (Ret (In L D) w o fun v w' o' => v = .int .i64 e ∧ LD w' o' L D p pd s') := by
  have := commit_any hL hD hLD h hrow b bv hb hcapb hblen; rw [he] at this; exact this
theorem reset_is {w : World} {o : Own} {L D p pd : Nat} {s s' : LogM × DiskM} {e : Int} (hL : L ≠ 0) (hD : D ≠ 0) (hLD : L ≠ D) (h : LD w o L D p pd s) (hrow : s.2.row.length ≤ 700000) (he : LogM.reset s = (s', e)) :
    Calls Try.prog 43 #[.pointer (some ⟨p, 0, none⟩)] w (Ret (In L D) w o fun v w' o' => v = .int .i64 e ∧ LD w' o' L D p pd s') := by
  have := reset_any hL hD hLD h hrow; rw [he] at this; exact this
theorem Step.nobody2 {L D : Nat} {w w1 : World} {o o1 : Own} (h : Step (In L D) w o w1 o1) (hL : ∀ k, k < w.heap.size → (o k).1 ≠ L) (hD : ∀ k, k < w.heap.size → (o k).1 ≠ D) : Step Nobody w o w1 o1 :=
  ⟨h.os, h.tape, h.output, h.size, h.own, fun k hk _ => h.block k hk (fun hx => by rcases hx with hx | hx; exact hL k hk hx; exact hD k hk hx)⟩

set_option maxRecDepth 100000 in
set_option maxHeartbeats 3200000 in
theorem wakes8_any (w : World) (o : Own) : Calls Try.prog 37 #[] w (Ret Nobody w o fun v _ _ => v = .bool true) := by
  obtain ⟨D, hD0, hDf⟩ := fresh_tag o w.heap.size 0
  have hD : D ≠ 0 := by omega
  obtain ⟨L, hL0, hLf⟩ := fresh_tag o w.heap.size D
  have hL : L ≠ 0 := by omega
  have hLD : L ≠ D := by omega
  clear hD0 hL0
  -- the states
  obtain ⟨s0, hs0⟩ : ∃ s0, (LogM.raw 0 4 0, DiskM.new 4) = s0 := ⟨_, rfl⟩
  have hU0 : LogM.Up s0 := by rw [← hs0]; exact new_up (by omega)
  have h0n : s0.1.n = 4 := by rw [← hs0]; rfl
  have h0e : s0.1.end' = 1 := by rw [← hs0]; rfl
  have h0r : s0.1.records = [] := by rw [← hs0]; rfl
  obtain ⟨s1, c1, hU1, r1, e1, n1, -, -⟩ := LogM.commit_up hU0 [97, 98, 99] (by rw [h0n, h0e]; decide)
  rw [h0r] at r1
  rw [h0e, show LogM.many [97, 98, 99] = 1 from by decide] at e1
  rw [h0n] at n1
  have hm2 : LogM.many (List.replicate 960 0) = 2 := by unfold LogM.many; rw [List.length_replicate]; decide
  obtain ⟨s2, c2, hU2, r2, e2, n2, -, -⟩ := LogM.commit_up hU1 (List.replicate 960 0) (by rw [n1, e1, hm2]; omega)
  rw [e1, hm2] at e2
  rw [n1] at n2
  have c3 := LogM.commit_full hU2.ld hU2.dd [] (by rw [n2, e2]; decide)
  obtain ⟨s3, c4, hU3, r4, e4, n4, -, -⟩ := LogM.reset_up hU2
  rw [n2] at n4
  have m0 : s0.1.room = 1440 := by unfold LogM.room; rw [h0n, h0e]
  have m1 : s1.1.room = 960 := by unfold LogM.room; rw [n1, e1]
  have m3 : s3.1.room = 1440 := by unfold LogM.room; rw [n4, e4]
  have w0 : s0.2.row.length ≤ 700000 := by rw [hU0.row]; simp
  have w1 : s1.2.row.length ≤ 700000 := by rw [hU1.row]; simp
  have w2 : s2.2.row.length ≤ 700000 := by rw [hU2.row]; simp
  have hmade := made_is (w := w) (o := o) hL hD hLD 4 (by omega) (by omega)
  rw [hs0] at hmade
  clear hs0 hU0 h0n h0e h0r hU1 e1 n1 hm2 hU2 e2 n2 hU3 e4 n4 r2
  go_enter Try.func37, Try.ntmps37
  go_wp2_with fail
  refine hmade.mono ?_; rintro e wc ⟨v, oc, rfl, hst, pd, p, -, -, rfl, hld⟩
  have hst := hst.inL (D := D)
  clear hmade
  go_wp2_with fail
  refine (room_is hld.1 1440 m0).mono ?_; rintro e wc' ⟨v, oc', rfl, hs, rfl⟩
  have hld := hld.step hs (fun h => h) (fun h => h) (fun h => h)
  have hst := hst.trans hs.in0
  have hsa := (Step.refl Nobody wc' oc').alloc (.cells (bvs [97, 98, 99]).toArray 5 (3, 4)) (0, 0)
  have hba := bytes_marked wc' oc' [97, 98, 99] (by decide)
  have hca := (commit_is hL hD hLD (hld.step hsa (fun h => h) (fun h => h) (fun h => h)) w0 [97, 98, 99] _ hba (fun a n c h => by cases h; decide) (by decide) c1)
  have hst := hst.trans hsa.in0
  have hbv : bvs [97, 98, 99] = [.int .u8 97, .int .u8 98, .int .u8 99] := rfl
  rw [hbv] at hsa hba hca hst
  have hcv : (convert 28 28 (.slice (some ⟨wc'.heap.size, 0, none⟩) 3 3)).run Try.prog (wc'.alloc (.cells #[.int .u8 97, .int .u8 98, .int .u8 99] 5)) = .ok (.slice (some ⟨wc'.heap.size, 0, none⟩) 3 3) (wc'.alloc (.cells #[.int .u8 97, .int .u8 98, .int .u8 99] 5 (3, 4))) := conv_marked wc' [.int .u8 97, .int .u8 98, .int .u8 99] 3 3
  clear hba hsa hs hld
  go_wp2_with fail
  refine hca.mono ?_; rintro e wc ⟨v, oc, rfl, hs, rfl, hld⟩
  have hst := hst.trans hs
  clear hca
  go_wp2_with fail
  refine (room_is hld.1 960 m1).mono ?_; rintro e wc' ⟨v, oc', rfl, hs, rfl⟩
  have hld := hld.step hs (fun h => h) (fun h => h) (fun h => h)
  have hst := hst.trans hs.in0
  go_wp2_with fail
  refine (batches_is hld.1 _ r1).mono ?_; rintro e wc ⟨v, oc, rfl, hs, vs, hown, -, hrb, -⟩
  have hld := hld.step hs (fun h => h) (fun h => h) (fun h => h)
  have hst := hst.trans hs.in0
  simp only [List.nil_append] at hown hrb
  obtain ⟨x, hx⟩ : ∃ x, vs[0]? = some x := by
    have := hrb.1; exact ⟨_, List.getElem?_eq_getElem (by rw [this]; decide)⟩
  obtain ⟨g, c, rfl, -, -, hgc⟩ := ownsRow_cell hown hx
  have hcv := conv_string (hrb.2 0 x _ hx rfl)
  have hmk : (Instr.makeSlice 28 (.int .i64 960) (.int .i64 960)).run Try.prog wc = .ok (.slice (some ⟨wc.heap.size, 0, none⟩) 960 960) (wc.alloc (.cells (bvs (List.replicate 960 0)).toArray 5)) := make_bytes wc 960 (by omega)
  have hsa := (Step.refl Nobody wc oc).alloc (.cells (bvs (List.replicate 960 0)).toArray 5) (0, 0)
  have hba := bytes_new wc oc (List.replicate 960 0) (by simp)
  have hld1 := hld.step hsa (fun h => h) (fun h => h) (fun h => h)
  have hst := hst.trans hsa.in0
  rw [List.length_replicate] at hba
  have hca := (commit_is hL hD hLD hld1 w1 (List.replicate 960 0) _ hba (fun a n c h => by cases h; decide) (by rw [List.length_replicate]; decide) c2)
  generalize List.replicate 960 (0 : UInt8) = zs at *
  clear hrb hown hx hld hba hsa hs hld1
  go_wp2_with fail
  refine hca.mono ?_; rintro e wc ⟨v, oc, rfl, hs, rfl, hld⟩
  have hst := hst.trans hs
  have hcn := commit_is hL hD hLD hld w2 [] (.slice none 0 0) (Bytes.nil _ _) (fun a n c h => by cases h; decide) (by decide) c3
  clear hca hs hmk hcv
  go_wp2_with fail
  refine hcn.mono ?_; rintro e wc ⟨v, oc, rfl, hs, rfl, hld⟩
  have hst := hst.trans hs
  have hrs := reset_is hL hD hLD hld w2 c4
  clear hcn hs
  go_wp2_with fail
  refine hrs.mono ?_; rintro e wc ⟨v, oc, rfl, hs, rfl, hld⟩
  have hst := hst.trans hs
  have hbt := batches_is hld.1 _ r4
  clear hrs hs
  go_wp2_with fail
  refine hbt.mono ?_; rintro e wc' ⟨v, oc', rfl, hs, vs, hown, -, hrb, -⟩
  obtain ⟨va, vc, rfl⟩ := own_form hown
  have hld := hld.step hs (fun h => h) (fun h => h) (fun h => h)
  have hst := hst.trans hs.in0
  have hrm := room_is hld.1 1440 m3
  clear hbt hs hown hrb
  go_wp2_with fail
  refine hrm.mono ?_; rintro e wc ⟨v, oc, rfl, hs, rfl⟩
  have hst := (hst.trans hs.in0).nobody2 hLf hDf
  clear hrm hs
  go_wp2_with fail
  go_ret
  exact ⟨_, oc, rfl, hst, rfl⟩
end Go.Proofs.YtfgggkheadfiaaaR
/- The laws' own helpers of layer 8: Bytes, texts, equal. -/
namespace Go.Proofs.YtfgggkheadfiaaaR
open Go Go.RowKit
attribute [local go_sem ↓] Go.wp_at_zero Go.wp_at_succ

def fillM (b : UInt8) (m : Nat) : List UInt8 := (List.range m).map fun i => b + UInt8.ofNat (i / 7)
theorem length_fillM (b : UInt8) (m : Nat) : (fillM b m).length = m := by simp [fillM]
theorem get_fillM (b : UInt8) (m i : Nat) (h : i < m) : (fillM b m)[i]? = some (b + UInt8.ofNat (i / 7)) := by simp [fillM, h]
theorem fillM_step (b : UInt8) (m k : Nat) (h : k < m) : ((fillM b m).take k ++ List.replicate (m - k) 0).set k (b + UInt8.ofNat (k / 7)) = (fillM b m).take (k + 1) ++ List.replicate (m - (k + 1)) 0 := by
  have h1 : ((fillM b m).take k).length = k := by rw [List.length_take, length_fillM]; omega
  rw [List.set_append_right _ _ (by omega), h1, Nat.sub_self, show m - k = (m - (k + 1)) + 1 from by omega, List.replicate_succ, List.set_cons_zero, List.take_add_one, get_fillM b m k h]
  simp
theorem own_slc {w : World} {o : Own} {b e : Nat} {v : Value} {n : Nat} {xs : List Value} (h : w.ownsRow b e 1 v n xs) (ho : ∀ k, v.ownBlock = some k → (o k).1 = 0) : Slc w o v n xs := by
  rcases h.2 with ⟨rfl, h0⟩ | ⟨g, cap, cur, rfl, h1, h2, h3, h4, h5, h6⟩
  · subst h0; exact .inl ⟨⟨_, _, rfl⟩, rfl, List.eq_nil_of_length_eq_zero h.1⟩
  · refine .inr ⟨g, 0, cap, rfl, h3, h4, ho g rfl, lt_of_block h2, ?_⟩
    have : w.rangeAt g 0 ((cur.toList.drop 0).take n) := range_of_block (w := w) (b := g) (cs := cur.toList) (E := e) (fr := (0, 0)) (by simpa using h2) 0 n
    rw [List.drop_zero] at this
    rw [Nat.mul_one] at h6
    rwa [h6] at this
set_option maxRecDepth 100000 in
set_option maxHeartbeats 1600000 in
theorem bytes8_any (do_ : Value) (b : UInt8) (n : Int) (hn : 0 ≤ n ∧ n ≤ 65535) (at_ : Value) (w : World) (o : Own) :
    Calls Try.prog 41 #[.agg #[do_, .int .u8 (b.toNat : Int), .int .u16 n, at_]] w (Ret Nobody w o fun v w' o' => ∃ g, v = .slice (some ⟨g, 0, none⟩) (n % 3000).toNat (n % 3000).toNat ∧ Bytes w' o' v (fillM b (n % 3000).toNat)) := by
  obtain ⟨N, rfl⟩ : ∃ N : Nat, n = N := ⟨n.toNat, by omega⟩
  obtain ⟨m, hm⟩ : ∃ m : Nat, ((N : Int) % 3000).toNat = m := ⟨_, rfl⟩
  have hmI : (N : Int) % 3000 = (m : Int) := by omega
  have hm3 : m < 3000 := by omega
  rw [hm]
  have hn1 := hn.2
  have hmk := make_bytes (w.alloc (.cells #[do_, .int .u8 (b.toNat : Int), .int .u16 (N : Int), at_] 65)) m (by omega)
  have hst := ((Step.refl Nobody w o).alloc (.cells #[do_, .int .u8 (b.toNat : Int), .int .u16 (N : Int), at_] 65) (0, 0)).alloc (.cells (bvs (List.replicate m 0)).toArray 5) (0, 0)
  have hz : (w.alloc (.cells #[do_, .int .u8 (b.toNat : Int), .int .u16 (N : Int), at_] 65)).heap.size = w.heap.size + 1 := by simp
  have hb1 : (w.alloc (.cells #[do_, .int .u8 (b.toNat : Int), .int .u16 (N : Int), at_] 65)).heap[w.heap.size]? = some (.cells #[do_, .int .u8 (b.toNat : Int), .int .u16 (N : Int), at_] 65 (0, 0)) := heap_alloc_new w _
  obtain ⟨W1, hW1⟩ : ∃ W1, w.alloc (.cells #[do_, .int .u8 (b.toNat : Int), .int .u16 (N : Int), at_] 65) = W1 := ⟨_, rfl⟩
  rw [hW1] at hmk hst hz hb1
  have hb2 : (W1.alloc (.cells (bvs (List.replicate m 0)).toArray 5)).heap[w.heap.size]? = some (.cells [do_, .int .u8 (b.toNat : Int), .int .u16 (N : Int), at_].toArray 65 (0, 0)) := by rw [Below.heap_alloc _ _ _ (by omega)]; exact hb1
  have hg := heap_alloc_new W1 (.cells (bvs (List.replicate m 0)).toArray 5)
  rw [hz] at hst hg hmk
  have hog : tagAt (tagAt o w.heap.size (0, 0)) (w.heap.size + 1) (0, 0) (w.heap.size + 1) = (0, 0) := tagAt_same _ _ _
  obtain ⟨g, hgE⟩ : ∃ g, w.heap.size + 1 = g := ⟨_, rfl⟩
  rw [hgE] at hst hg hmk hog
  generalize hW2 : W1.alloc (.cells (bvs (List.replicate m 0)).toArray 5) = W2 at *
  rw [← hW1] at hmk
  generalize tagAt (tagAt o w.heap.size (0, 0)) g (0, 0) = o2 at *
  rw [← hmI] at hmk
  have hmkH := hidden hmk
  have hmIH := hidden hmI
  clear hmk hb1 hz hm hW2 hmI hW1
  go_enter Try.func41, Try.ntmps41
  go_wp2_with ((with_reducible apply lit_makeSlice); exact hmkH.out; simp only [Act.put, List.setIfInBounds_toArray, List.set_cons_zero, List.set_cons_succ])
  go_loopw [4] (fun i wr => ∃ k : Nat, k ≤ m ∧ i = .int .i64 k ∧ wr.heap[g]? = some (.cells (bvs ((fillM b m).take k ++ List.replicate (m - k) 0)).toArray 5 (0, 0)) ∧ wr.heap[w.heap.size]? = some (.cells [do_, .int .u8 (b.toNat : Int), .int .u16 (N : Int), at_].toArray 65 (0, 0)) ∧ Step Nobody w o wr o2)
    (fun i _ => m - (intOf i).toNat)
  case atStart => exact ⟨0, Nat.zero_le _, rfl, by simpa using hg, hb2, hst⟩
  case round =>
    clear hst hb2 hg
    obtain ⟨k, hk, rfl, hg, hb2, hst⟩ := hrel
    by_cases hlt : k < m
    · have c1 := cell_of_block hb2 1
      have hfg := free_of_block hg k
      have hcg := cell_of_block hg k
      have hval : ((b.toNat : Int) + (k : Int) / 7) % 256 = ((b + UInt8.ofNat (k / 7)).toNat : Int) := by rw [UInt8.toNat_add, UInt8.toNat_ofNat']; push_cast; omega
      have hgs := heap_setCell_at (i := k) (.int .u8 ((b + UInt8.ofNat (k / 7)).toNat : Int)) hg
      have hbs : (wr.setCell ⟨g, k, none⟩ (.int .u8 ((b + UInt8.ofNat (k / 7)).toNat : Int))).heap[w.heap.size]? = _ := (Below.heap_setCell _ _ _ _ (by show w.heap.size ≠ g; omega)).trans hb2
      have hss := hst.setCell (a := ⟨g, k, none⟩) (.int .u8 ((b + UInt8.ofNat (k / 7)).toNat : Int)) (.inr (by show w.heap.size ≤ g; omega))
      have hcs : (bvs ((fillM b m).take k ++ List.replicate (m - k) 0)).set k (.int .u8 ((b + UInt8.ofNat (k / 7)).toNat : Int)) = bvs ((fillM b m).take (k + 1) ++ List.replicate (m - (k + 1)) 0) := by rw [← fillM_step b m k hlt]; simp [bvs, List.map_set, bv]
      rw [hcs] at hgs
      obtain ⟨z, hz⟩ : ∃ z, (bvs ((fillM b m).take k ++ List.replicate (m - k) 0))[k]? = some z := ⟨_, List.getElem?_eq_getElem (by simp [length_fillM]; omega)⟩
      rw [hz] at hcg
      have hH := hidden (And.intro hgs (And.intro hbs hss))
      have hvalH := hidden hval
      clear hgs hbs hss hcs hz hval hg hb2 hst
      go_wp2_with fail
      rw [hvalH.out]
      go_roundw
      case rel => exact ⟨k + 1, by omega, by go_num, hH.out.1, hH.out.2.1, hH.out.2.2⟩
      case measure => simp [intOf]; omega
    · have hkm : k = m := by omega
      subst hkm
      go_wp2_with fail
      go_ret
      refine ⟨_, o2, rfl, hst, g, rfl, ?_⟩
      rw [List.take_of_length_le (by rw [length_fillM]; omega), Nat.sub_self, List.replicate_zero, List.append_nil] at hg
      refine .inr ⟨g, 0, k, by rw [length_fillM]; rfl, by rw [length_fillM]; omega, by simp [maxLen]; omega, by rw [hog], lt_of_block hg, range_whole hg⟩
set_option maxRecDepth 100000 in
set_option maxHeartbeats 1600000 in
theorem texts_any {w : World} {o : Own} {v : Value} {vs : List Value} {ls : List (List UInt8)} (hv : Slc w o v vs.length vs) (hr : RowsB w o vs ls) (hmany : vs.length ≤ 1000000) :
    Calls Try.prog 50 #[v] w (Ret Nobody w o fun v' w' o' => Slc w' o' v' ls.length (tvs ls)) := by
  obtain ⟨a, c, rfl⟩ := slc_form hv
  have hl0 := hr.1
  have hkl : ∀ k, k < vs.length → ∃ x l, vs[k]? = some x ∧ ls[k]? = some l := fun k hk => ⟨_, _, List.getElem?_eq_getElem hk, List.getElem?_eq_getElem (by omega)⟩
  obtain ⟨m, hm⟩ : ∃ m, vs.length = m := ⟨_, rfl⟩
  rw [hm] at hv hl0 hmany hkl ⊢
  have hrH := hidden hr
  have hlsE : ls.take m = ls := List.take_of_length_le (by omega)
  have hlsH := hidden hlsE
  have hl0H := hidden hl0
  clear hr hm hlsE hl0
  go_enter Try.func50, Try.ntmps50
  go_wp2_with fail
  go_loopw [3, 4] (fun out i wr => ∃ k : Nat, k ≤ m ∧ i = .int .i64 k ∧ wr.ownsRow w.heap.size 9 1 out k (tvs (ls.take k)) ∧ Below w.heap.size w wr)
    (fun _ i _ => m - (intOf i).toNat)
  case atStart => exact ⟨0, Nat.zero_le _, rfl, World.ownsRow_nil _ _ _ _, Below.refl _ _⟩
  case round =>
    obtain ⟨k, hk, rfl, hown, hbel⟩ := hrel
    obtain ⟨oa, oc, rfl⟩ := own_form hown
    by_cases hlt : k < m
    · have hs : Step Nobody w o wr (ext w o) := ⟨hbel.os, hbel.tape, hbel.output, hbel.size, fun k hk => if_pos hk, fun k hk _ => hbel.block k hk⟩
      obtain ⟨x, l, hx, hl⟩ := hkl k hlt
      obtain ⟨b, off, hab, hc, hbl, hbo⟩ := (hv.step hs (fun h => h)).cell k hx
      subst hab
      have hby := (hrH.out.2 k x l hx hl).step hs (fun h => h)
      obtain ⟨xa, xc, rfl⟩ := slc_form hby
      have hcv := conv_string hby
      have hownA := hown.alloc (.cells #[.string ⟨l.toArray⟩] 9)
      have hnb : (wr.alloc (.cells #[.string ⟨l.toArray⟩] 9)).heap[wr.heap.size]? = some (.cells [Value.string ⟨l.toArray⟩].toArray 9 (0, 0)) := heap_alloc_new wr _
      obtain ⟨g, cap, w3, hrun, hown3, hgrow, hat, hlt3⟩ := run_append_row (P := Try.prog) _ 41 41 9 Try.underlying41 inf9 rfl (by omega) (by have := hbel.size; simp; omega) _ k (tvs (ls.take k)) hownA wr.heap.size 0 1 1
        [Value.string ⟨l.toArray⟩] rfl (range_whole hnb) (one_cons rfl (by simp)) (by omega) (by omega) (by omega)
      have hb3 : Below w.heap.size w w3 := (hbel.alloc hbel.size _).grown hgrow (by have := hbel.size; simp; omega) (fun k hk => (hown.lt k hk).1)
      have htk : tvs (ls.take k) ++ [Value.string ⟨l.toArray⟩] = tvs (ls.take (k + 1)) := by rw [List.take_add_one, hl]; simp [tvs]
      rw [htk] at hown3
      have hrunH := hidden hrun
      clear hrun hat hlt3 hnb hownA htk hs hby hx hl
      go_wp2_with ((with_reducible apply lit_append); exact hrunH.out; simp only [Act.put, List.setIfInBounds_toArray, List.set_cons_zero, List.set_cons_succ])
      go_roundw
      case rel => exact ⟨k + 1, by omega, by go_num, hown3, hb3⟩
      case measure => simp [intOf]; omega
    · have hkm : k = m := by omega
      subst hkm
      go_wp2_with fail
      go_ret
      refine ⟨_, ext w o, rfl, ⟨hbel.os, hbel.tape, hbel.output, hbel.size, fun k hk => if_pos hk, fun k hk _ => hbel.block k hk⟩, ?_⟩
      rw [hlsH.out] at hown
      rw [← hl0H.out]
      exact own_slc hown fun q hq => by unfold ext; rw [if_neg (by have := (hown.lt q hq).1; omega)]
set_option maxRecDepth 100000 in
set_option maxHeartbeats 1600000 in
theorem equal_any {w : World} {o : Own} {v1 v2 : Value} {l1 l2 : List (List UInt8)} (h1 : Slc w o v1 l1.length (tvs l1)) (h2 : Slc w o v2 l2.length (tvs l2)) (hmany : l1.length ≤ 1000000) :
    Calls Try.prog 49 #[v1, v2] w (Ret Nobody w o fun v _ _ => v = .bool (l1 == l2)) := by
  obtain ⟨a1, c1, rfl⟩ := slc_form h1
  obtain ⟨a2, c2, rfl⟩ := slc_form h2
  by_cases hl : l1.length = l2.length
  · rw [← hl] at h2 ⊢
    have hlH := hidden hl
    obtain ⟨m, hm⟩ : ∃ m, l1.length = m := ⟨_, rfl⟩
    have hmH := hidden hm
    rw [hm] at h1 h2 hmany hl ⊢
    have hgt : ∀ k, k < m → (tvs l1)[k]? = some (.string ⟨(l1.getD k []).toArray⟩) ∧ (tvs l2)[k]? = some (.string ⟨(l2.getD k []).toArray⟩) := fun k hk => ⟨get_tvs l1 k (by omega), get_tvs l2 k (by omega)⟩
    clear hm hl
    go_enter Try.func49, Try.ntmps49
    go_wp2_with fail
    go_loopw [5] (fun i wr => ∃ k : Nat, k ≤ m ∧ i = .int .i64 k ∧ Hid (∀ j, j < k → l1.getD j [] = l2.getD j []) ∧ Step Nobody w o wr o) (fun i _ => m - (intOf i).toNat)
    case atStart => exact ⟨0, Nat.zero_le _, rfl, hidden (fun j hj => by omega), Step.refl _ _ _⟩
    case round =>
      obtain ⟨k, hk, rfl, hall, hst⟩ := hrel
      by_cases hlt : k < m
      · obtain ⟨b1, f1, e1, x1, -, -⟩ := (h1.step hst (fun h => h)).cell k (hgt k hlt).1
        obtain ⟨b2, f2, e2, x2, -, -⟩ := (h2.step hst (fun h => h)).cell k (hgt k hlt).2
        subst e1 e2
        have hst2 := hst.drew
        obtain ⟨y1, hy1⟩ : ∃ y, l1.getD k [] = y := ⟨_, rfl⟩
        obtain ⟨y2, hy2⟩ : ∃ y, l2.getD k [] = y := ⟨_, rfl⟩
        rw [hy1] at x1
        rw [hy2] at x2
        have hy1H := hidden hy1
        have hy2H := hidden hy2
        clear hy1 hy2
        by_cases he : y1 = y2
        · have heH := hidden he
          clear he
          go_wp2_with fail
          refine wp_region_need (fun w' => w'.cell? ⟨b1, f1 + k, none⟩ = some (.string ⟨y1.toArray⟩) ∧ w'.cell? ⟨b2, f2 + k, none⟩ = some (.string ⟨y2.toArray⟩)) (fun _ => true) (by kernel_rfl) ⟨x1, x2⟩ (fun hHeld => ?_)
          refine wpAnyN_take (i := 0) (v := ?_) rfl (by kernel_rfl) (by kernel_rfl) (by kernel_rfl) (by kernel_rfl) (fun _ _ _ h => h) (Or.inl ⟨by rfl, ?_⟩) (by assumption) ?_
          rotate_left
          · intro w hSw; ((try dsimp only at hSw); go_simp; (try with_reducible rfl))
          simp only [Act.put, List.setIfInBounds_toArray, List.set_cons_zero, List.set_cons_succ]
          refine wpAnyN_take (i := 1) (v := ?_) rfl (by kernel_rfl) (by kernel_rfl) (by kernel_rfl) (by kernel_rfl) (fun _ _ _ h => h) (Or.inl ⟨by rfl, ?_⟩) (by assumption) ?_
          rotate_left
          · intro w hSw; ((try dsimp only at hSw); go_simp; (try with_reducible rfl))
          simp only [Act.put, List.setIfInBounds_toArray, List.set_cons_zero, List.set_cons_succ]
          refine wpAnyN_take (i := 2) (v := ?_) rfl (by kernel_rfl) (by kernel_rfl) (by kernel_rfl) (by kernel_rfl) (fun _ _ _ h => h) (Or.inl ⟨by rfl, ?_⟩) (by assumption) ?_
          rotate_left
          · intro w hSw; ((try dsimp only at hSw); go_simp; (try with_reducible rfl))
          simp only [Act.put, List.setIfInBounds_toArray, List.set_cons_zero, List.set_cons_succ]
          refine wpAnyN_take (i := 3) (v := ?_) rfl (by kernel_rfl) (by kernel_rfl) (by kernel_rfl) (by kernel_rfl) (fun _ _ _ h => h) (Or.inl ⟨by rfl, ?_⟩) (by assumption) ?_
          rotate_left
          · intro w hSw; ((try dsimp only at hSw); go_simp; (try with_reducible rfl))
          simp only [Act.put, List.setIfInBounds_toArray, List.set_cons_zero, List.set_cons_succ]
          refine wpAnyN_take (i := 4) (v := ?_) rfl (by kernel_rfl) (by kernel_rfl) (by kernel_rfl) (by kernel_rfl) (fun _ _ _ h => h) (Or.inl ⟨by rfl, ?_⟩) (by assumption) ?_
          rotate_left
          · intro w hSw; ((try dsimp only at hSw); go_simp; (try with_reducible rfl))
          simp only [Act.put, List.setIfInBounds_toArray, List.set_cons_zero, List.set_cons_succ]
          refine wpAnyN_take (i := 5) (v := ?_) rfl (by kernel_rfl) (by kernel_rfl) (by kernel_rfl) (by kernel_rfl) (fun _ _ _ h => h) (Or.inl ⟨by rfl, ?_⟩) (by assumption) ?_
          rotate_left
          · intro w hSw; ((try dsimp only at hSw); go_simp; (try with_reducible rfl))
          simp only [Act.put, List.setIfInBounds_toArray, List.set_cons_zero, List.set_cons_succ]
          refine wpAnyN_take (i := 6) (v := ?_) rfl (by kernel_rfl) (by kernel_rfl) (by kernel_rfl) (by kernel_rfl) (fun _ _ _ h => h) (Or.inl ⟨by rfl, ?_⟩) (by assumption) ?_
          rotate_left
          · intro w hSw; ((try dsimp only at hSw); go_simp; (try with_reducible rfl))
          simp only [Act.put, List.setIfInBounds_toArray, List.set_cons_zero, List.set_cons_succ]
          refine wpAnyN_take (i := 7) (v := ?_) rfl (by kernel_rfl) (by kernel_rfl) (by kernel_rfl) (by kernel_rfl) (fun _ _ _ h => h) (Or.inl ⟨by rfl, ?_⟩) (by assumption) ?_
          rotate_left
          · intro w hSw; ((try dsimp only at hSw); go_simp; (try with_reducible rfl))
          simp only [Act.put, List.setIfInBounds_toArray, List.set_cons_zero, List.set_cons_succ]
          refine wpAnyN_take (i := 8) (v := .bool false) rfl (by kernel_rfl) (by kernel_rfl) (by kernel_rfl) (by kernel_rfl) (fun _ _ _ h => h) (Or.inl ⟨by rfl, fun w hSw => by go_simp; exact heH.out⟩) (by assumption) ?_
          simp only [Act.put, List.setIfInBounds_toArray, List.set_cons_zero, List.set_cons_succ]
          refine wpAnyN_done (by kernel_rfl) ?_ _
          go_wp2_with fail
          go_roundw
          case rel => exact ⟨k + 1, by omega, by go_num, hidden (fun j hj => by
            by_cases hjk : j < k
            · exact hall.out j hjk
            · obtain rfl : j = k := by omega
              rw [hy1H.out, hy2H.out]; exact heH.out), hst2⟩
          case measure => simp [intOf]; omega
        · have hne : (l1 == l2) = false := by rw [beq_eq_false_iff_ne]; rintro rfl; exact he (hy1H.out.symm.trans hy2H.out)
          have hneH := hidden hne
          have heH := hidden he
          clear he hne
          go_wp2_with fail
          refine wp_region_need (fun w' => w'.cell? ⟨b1, f1 + k, none⟩ = some (.string ⟨y1.toArray⟩) ∧ w'.cell? ⟨b2, f2 + k, none⟩ = some (.string ⟨y2.toArray⟩)) (fun _ => true) (by kernel_rfl) ⟨x1, x2⟩ (fun hHeld => ?_)
          refine wpAnyN_take (i := 0) (v := ?_) rfl (by kernel_rfl) (by kernel_rfl) (by kernel_rfl) (by kernel_rfl) (fun _ _ _ h => h) (Or.inl ⟨by rfl, ?_⟩) (by assumption) ?_
          rotate_left
          · intro w hSw; ((try dsimp only at hSw); go_simp; (try with_reducible rfl))
          simp only [Act.put, List.setIfInBounds_toArray, List.set_cons_zero, List.set_cons_succ]
          refine wpAnyN_take (i := 1) (v := ?_) rfl (by kernel_rfl) (by kernel_rfl) (by kernel_rfl) (by kernel_rfl) (fun _ _ _ h => h) (Or.inl ⟨by rfl, ?_⟩) (by assumption) ?_
          rotate_left
          · intro w hSw; ((try dsimp only at hSw); go_simp; (try with_reducible rfl))
          simp only [Act.put, List.setIfInBounds_toArray, List.set_cons_zero, List.set_cons_succ]
          refine wpAnyN_take (i := 2) (v := ?_) rfl (by kernel_rfl) (by kernel_rfl) (by kernel_rfl) (by kernel_rfl) (fun _ _ _ h => h) (Or.inl ⟨by rfl, ?_⟩) (by assumption) ?_
          rotate_left
          · intro w hSw; ((try dsimp only at hSw); go_simp; (try with_reducible rfl))
          simp only [Act.put, List.setIfInBounds_toArray, List.set_cons_zero, List.set_cons_succ]
          refine wpAnyN_take (i := 3) (v := ?_) rfl (by kernel_rfl) (by kernel_rfl) (by kernel_rfl) (by kernel_rfl) (fun _ _ _ h => h) (Or.inl ⟨by rfl, ?_⟩) (by assumption) ?_
          rotate_left
          · intro w hSw; ((try dsimp only at hSw); go_simp; (try with_reducible rfl))
          simp only [Act.put, List.setIfInBounds_toArray, List.set_cons_zero, List.set_cons_succ]
          refine wpAnyN_take (i := 4) (v := ?_) rfl (by kernel_rfl) (by kernel_rfl) (by kernel_rfl) (by kernel_rfl) (fun _ _ _ h => h) (Or.inl ⟨by rfl, ?_⟩) (by assumption) ?_
          rotate_left
          · intro w hSw; ((try dsimp only at hSw); go_simp; (try with_reducible rfl))
          simp only [Act.put, List.setIfInBounds_toArray, List.set_cons_zero, List.set_cons_succ]
          refine wpAnyN_take (i := 5) (v := ?_) rfl (by kernel_rfl) (by kernel_rfl) (by kernel_rfl) (by kernel_rfl) (fun _ _ _ h => h) (Or.inl ⟨by rfl, ?_⟩) (by assumption) ?_
          rotate_left
          · intro w hSw; ((try dsimp only at hSw); go_simp; (try with_reducible rfl))
          simp only [Act.put, List.setIfInBounds_toArray, List.set_cons_zero, List.set_cons_succ]
          refine wpAnyN_take (i := 6) (v := ?_) rfl (by kernel_rfl) (by kernel_rfl) (by kernel_rfl) (by kernel_rfl) (fun _ _ _ h => h) (Or.inl ⟨by rfl, ?_⟩) (by assumption) ?_
          rotate_left
          · intro w hSw; ((try dsimp only at hSw); go_simp; (try with_reducible rfl))
          simp only [Act.put, List.setIfInBounds_toArray, List.set_cons_zero, List.set_cons_succ]
          refine wpAnyN_take (i := 7) (v := ?_) rfl (by kernel_rfl) (by kernel_rfl) (by kernel_rfl) (by kernel_rfl) (fun _ _ _ h => h) (Or.inl ⟨by rfl, ?_⟩) (by assumption) ?_
          rotate_left
          · intro w hSw; ((try dsimp only at hSw); go_simp; (try with_reducible rfl))
          simp only [Act.put, List.setIfInBounds_toArray, List.set_cons_zero, List.set_cons_succ]
          refine wpAnyN_take (i := 8) (v := .bool true) rfl (by kernel_rfl) (by kernel_rfl) (by kernel_rfl) (by kernel_rfl) (fun _ _ _ h => h) (Or.inl ⟨by rfl, fun w hSw => by go_simp; exact heH.out⟩) (by assumption) ?_
          simp only [Act.put, List.setIfInBounds_toArray, List.set_cons_zero, List.set_cons_succ]
          refine wpAnyN_done (by kernel_rfl) ?_ _
          go_wp2_with fail
          go_ret
          exact ⟨_, o, rfl, hst2, by rw [hneH.out]; rfl⟩
      · have hkm : k = m := by omega
        subst hkm
        have hE : (l1 == l2) = true := by
          rw [beq_iff_eq]
          apply List.ext_getElem
          · exact hlH.out
          · intro i i1 i2
            have := hall.out i (by rw [← hmH.out]; exact i1)
            simpa [List.getD_eq_getElem?_getD, i1, i2] using this
        have hEH := hidden hE
        clear hE
        go_wp2_with fail
        go_ret
        exact ⟨_, o, rfl, hst, by rw [hEH.out]; rfl⟩
  · have hlI : ¬ (l1.length : Int) = (l2.length : Int) := by omega
    have hE : (l1 == l2) = false := by
      rw [beq_eq_false_iff_ne]; rintro rfl; exact hl rfl
    have hEH := hidden hE
    clear h1 h2 hE hl
    generalize l1.length = x1 at *
    generalize l2.length = x2 at *
    go_enter Try.func49, Try.ntmps49
    go_wp2_with fail
    go_ret
    exact ⟨_, o, rfl, Step.refl _ _ _, by rw [hEH.out]; rfl⟩
end Go.Proofs.YtfgggkheadfiaaaR
/- Plain laws: a page whose write was torn. No program in sight. -/
namespace Go.Proofs.YtfgggkheadfiaaaR
open Go Go.RowKit

theorem small8 {A : List UInt8} (h : A.length = 8) (hn : numN A < 65536) : ∃ x y : UInt8, A = [0, 0, 0, 0, 0, 0, x, y] ∧ numN A = x.toNat * 256 + y.toNat := by
  have hx : ∀ x y : UInt8, numN [0, 0, 0, 0, 0, 0, x, y] = x.toNat * 256 + y.toNat := fun x y => by simp [numN]
  obtain ⟨N, hN⟩ : ∃ N, numN A = N := ⟨_, rfl⟩
  rw [hN] at hn ⊢
  have e1 : (UInt8.ofNat (N / 256)).toNat = N / 256 := by rw [UInt8.toNat_ofNat']; omega
  have e2 : (UInt8.ofNat (N % 256)).toNat = N % 256 := by rw [UInt8.toNat_ofNat']; omega
  refine ⟨UInt8.ofNat (N / 256), UInt8.ofNat (N % 256), ?_, ?_⟩
  · apply numN_inj
    · simpa using h
    · rw [hx, e1, e2, hN]; omega
  · rw [e1, e2]; omega
/-- The first n of eight bytes are new. -/
theorem mix8 {A B : List UInt8} (hA : A.length = 8) (hB : B.length = 8) (a : numN A < 65536) (b : numN B < 65536) (n : Nat) :
    A.take n ++ B.drop n = B ∨ A.take n ++ B.drop n = A ∨ (numN (A.take n ++ B.drop n) = numN A / 256 * 256 + numN B % 256) := by
  obtain ⟨x, y, rfl, ha⟩ := small8 hA a
  obtain ⟨u, v, rfl, hb⟩ := small8 hB b
  have hy := y.toNat_lt
  have hv := v.toNat_lt
  by_cases h8 : 8 ≤ n
  · right; left
    rw [List.take_of_length_le (by simpa using h8), List.drop_eq_nil_of_le (by simpa using h8), List.append_nil]
  by_cases h7 : n = 7
  · right; right
    subst h7
    rw [ha, hb]
    have : numN (List.take 7 [0, 0, 0, 0, 0, 0, x, y] ++ List.drop 7 [0, 0, 0, 0, 0, 0, u, v]) = x.toNat * 256 + v.toNat := by simp [numN]
    rw [this]; omega
  · left
    have : n = 0 ∨ n = 1 ∨ n = 2 ∨ n = 3 ∨ n = 4 ∨ n = 5 ∨ n = 6 := by omega
    rcases this with rfl | rfl | rfl | rfl | rfl | rfl | rfl <;> rfl

namespace LogM
/-- The stamps at both ends of a page are K at most; and how they stand to one another. -/
def PageOk (K : Nat) (p : List UInt8) : Prop := p.length = 512 ∧ numN (p.take 8) ≤ K ∧ numN (p.drop 504) ≤ K ∧ (numN (p.take 8) % 256 = numN (p.drop 504) % 256 → numN (p.drop 504) / 256 ≤ numN (p.take 8) / 256)
theorem PageOk.mono {K K' : Nat} {p : List UInt8} (h : PageOk K p) (hK : K ≤ K') : PageOk K' p := ⟨h.1, Nat.le_trans h.2.1 hK, Nat.le_trans h.2.2.1 hK, h.2.2.2⟩
theorem cut_page {p : List UInt8} (_h : p.length = 512) : p = p.take 8 ++ ((p.drop 8).take 496 ++ p.drop 504) := by
  rw [show p.drop 504 = (p.drop 8).drop 496 from by rw [List.drop_drop], List.take_append_drop, List.take_append_drop]
theorem ends {A M Z : List UInt8} (hA : A.length = 8) (hM : M.length = 496) (hZ : Z.length = 8) : (A ++ (M ++ Z)).take 8 = A ∧ (A ++ (M ++ Z)).drop 504 = Z ∧ (A ++ (M ++ Z)).length = 512 := by
  refine ⟨List.take_left' hA, ?_, by simp; omega⟩
  rw [show 504 = 8 + 496 from rfl, ← List.drop_drop, List.drop_left' hA, List.drop_left' hM]
theorem splice_low {A R A' R' : List UInt8} (hA : A.length = 8) (hA' : A'.length = 8) {n : Nat} (hn : n ≤ 8) : DiskM.splicePage n (A' ++ R') (A ++ R) = (A'.take n ++ A.drop n) ++ R := by
  unfold DiskM.splicePage
  rw [List.take_append_of_le_length (by omega), List.drop_append_of_le_length (by omega), List.append_assoc]
theorem splice_mid {A M Z A' M' Z' : List UInt8} (hA : A.length = 8) (hA' : A'.length = 8) (hM : M.length = 496) (hM' : M'.length = 496) {m : Nat} (hn : m ≤ 496) : DiskM.splicePage (8 + m) (A' ++ (M' ++ Z')) (A ++ (M ++ Z)) = A' ++ ((M'.take m ++ M.drop m) ++ Z) := by
  unfold DiskM.splicePage
  have e1 : (A' ++ (M' ++ Z')).take (8 + m) = A' ++ M'.take m := by
    rw [show 8 + m = A'.length + m from by omega, List.take_length_add_append, List.take_append_of_le_length (by omega)]
  have e2 : (A ++ (M ++ Z)).drop (8 + m) = M.drop m ++ Z := by
    rw [show 8 + m = A.length + m from by omega, List.drop_length_add_append, List.drop_append_of_le_length (by omega)]
  rw [e1, e2]; simp [List.append_assoc]
theorem splice_high {A M Z A' M' Z' : List UInt8} (hA : A.length = 8) (hA' : A'.length = 8) (hM : M.length = 496) (hM' : M'.length = 496) {m : Nat} (_hn : m ≤ 8) (_hZ : Z.length = 8) (_hZ' : Z'.length = 8) : DiskM.splicePage (504 + m) (A' ++ (M' ++ Z')) (A ++ (M ++ Z)) = A' ++ (M' ++ (Z'.take m ++ Z.drop m)) := by
  unfold DiskM.splicePage
  have e1 : (A' ++ (M' ++ Z')).take (504 + m) = A' ++ (M' ++ Z'.take m) := by
    rw [show 504 + m = A'.length + (M'.length + m) from by omega, List.take_length_add_append, List.take_length_add_append]
  have e2 : (A ++ (M ++ Z)).drop (504 + m) = Z.drop m := by
    rw [show 504 + m = A.length + (M.length + m) from by omega, List.drop_length_add_append, List.drop_length_add_append]
  rw [e1, e2]; simp [List.append_assoc]
theorem says_ends {p : List UInt8} (h : (saidL p).2 = true) : numN (p.take 8) = numN (p.drop 504) := by
  obtain ⟨-, h1, h2, -⟩ := saidL_true h
  obtain ⟨e1, -, -, -, -, e2⟩ := LeafM.page_parts (leafOf p) (leafOf_len p h2)
  rw [h1] at e1 e2
  rw [e1, e2]
theorem says_not {p : List UInt8} (h : numN (p.take 8) ≠ numN (p.drop 504)) : (saidL p).2 = false := by
  cases hs : (saidL p).2 with
  | false => rfl
  | true => exact (h (says_ends hs)).elim
theorem page_cut {x : LeafM} (hx : x.bytes.length ≤ 480) : ∃ M, M.length = 496 ∧ x.page = be 8 x.stamp ++ (M ++ be 8 x.stamp) := by
  obtain ⟨e1, -, -, -, -, e2⟩ := LeafM.page_parts x hx
  have hl := LeafM.length_page hx
  have := cut_page hl
  rw [e1, e2] at this
  exact ⟨_, by simp [hl], this⟩
theorem numN_be8 (S : BitVec 64) : numN (be 8 S) = S.toNat := by rw [numN_be]; exact Nat.mod_eq_of_lt (Nat.lt_of_lt_of_le S.isLt (by decide))
theorem pageOk_page {x : LeafM} (hx : x.bytes.length ≤ 480) {K : Nat} (hK : x.stamp.toNat ≤ K) : PageOk K x.page := by
  obtain ⟨M, hM, e⟩ := page_cut hx
  obtain ⟨e1, e2, e3⟩ := ends (length_be 8 x.stamp) hM (length_be 8 x.stamp)
  unfold PageOk
  rw [e, e1, e2, e3, numN_be8]
  exact ⟨rfl, hK, hK, fun _ => Nat.le_refl _⟩
theorem torn_page {K : Nat} (x : LeafM) (hx : x.bytes.length ≤ 480) (hK : K < x.stamp.toNat) (hS : x.stamp.toNat < 65536) {p : List UInt8} (hp : PageOk K p) (n : Nat) :
    (DiskM.splicePage n x.page p = p ∨ DiskM.splicePage n x.page p = x.page ∨ (saidL (DiskM.splicePage n x.page p)).2 = false) ∧ PageOk (x.stamp.toNat + 255) (DiskM.splicePage n x.page p) := by
  obtain ⟨hl, hf, hg, hc⟩ := hp
  obtain ⟨M', hM', e⟩ := page_cut hx
  have hS8 := length_be 8 x.stamp
  have hSn := numN_be8 x.stamp
  have hcut := cut_page hl
  obtain ⟨A, hA⟩ : ∃ A, p.take 8 = A := ⟨_, rfl⟩
  obtain ⟨M, hM⟩ : ∃ M, (p.drop 8).take 496 = M := ⟨_, rfl⟩
  obtain ⟨Z, hZ⟩ : ∃ Z, p.drop 504 = Z := ⟨_, rfl⟩
  have hAl : A.length = 8 := by rw [← hA]; simp [hl]
  have hMl : M.length = 496 := by rw [← hM]; simp [hl]
  have hZl : Z.length = 8 := by rw [← hZ]; simp [hl]
  rw [hA, hM, hZ] at hcut
  rw [hA] at hf hc
  rw [hZ] at hg hc
  clear hA hM hZ
  have hAll : PageOk (x.stamp.toNat + 255) p := by
    obtain ⟨e1, e2, e3⟩ := ends hAl hMl hZl
    unfold PageOk
    rw [hcut, e1, e2, e3]
    exact ⟨rfl, by omega, by omega, hc⟩
  have hNew : PageOk (x.stamp.toNat + 255) x.page := pageOk_page hx (by omega)
  generalize hB : be 8 x.stamp = B at *
  generalize x.stamp.toNat = S at *
  have fin : ∀ {A2 M2 Z2 : List UInt8}, A2.length = 8 → M2.length = 496 → Z2.length = 8 → numN A2 ≤ S + 255 → numN Z2 ≤ S + 255 → numN A2 ≠ numN Z2 → (numN A2 % 256 = numN Z2 % 256 → numN Z2 / 256 ≤ numN A2 / 256) →
      (saidL (A2 ++ (M2 ++ Z2))).2 = false ∧ PageOk (S + 255) (A2 ++ (M2 ++ Z2)) := by
    intro A2 M2 Z2 h1 h2 h3 h4 h5 h6 h7
    obtain ⟨e1, e2, e3⟩ := ends h1 h2 h3
    refine ⟨says_not (by rw [e1, e2]; exact h6), ?_⟩
    unfold PageOk
    rw [e1, e2, e3]
    exact ⟨rfl, h4, h5, h7⟩
  by_cases h8 : n ≤ 8
  · rw [e, hcut, splice_low hAl hS8 h8]
    rcases mix8 hS8 hAl (by omega) (by omega) n with h | h | h
    · rw [h, ← hcut]; exact ⟨.inl rfl, hAll⟩
    · rw [h]
      have := fin hS8 hMl hZl (by omega) (by omega) (by omega) (by omega)
      exact ⟨.inr (.inr this.1), this.2⟩
    · by_cases he : numN (B.take n ++ A.drop n) = numN Z
      · have hA2 : B.take n ++ A.drop n = A := by
          apply numN_inj
          · simp [hS8, hAl]; omega
          · rw [h] at he ⊢
            have h1 : numN A % 256 = numN Z % 256 := by omega
            have h2 := hc h1
            omega
        rw [hA2, ← hcut]; exact ⟨.inl rfl, hAll⟩
      · have := fin (A2 := B.take n ++ A.drop n) (M2 := M) (Z2 := Z) (by simp [hS8, hAl]; omega) hMl hZl (by rw [h]; omega) (by omega) he (by rw [h]; omega)
        exact ⟨.inr (.inr this.1), this.2⟩
  · by_cases h504 : n ≤ 504
    · obtain ⟨m, rfl⟩ : ∃ m, n = 8 + m := ⟨n - 8, by omega⟩
      rw [e, hcut, splice_mid hAl hS8 hMl hM' (by omega)]
      have := fin (A2 := B) (M2 := M'.take m ++ M.drop m) (Z2 := Z) hS8 (by simp [hMl, hM']; omega) hZl (by omega) (by omega) (by omega) (by omega)
      exact ⟨.inr (.inr this.1), this.2⟩
    · by_cases h512 : n ≤ 512
      · obtain ⟨m, rfl⟩ : ∃ m, n = 504 + m := ⟨n - 504, by omega⟩
        rw [e, hcut, splice_high hAl hS8 hMl hM' (by omega) hZl hS8]
        rcases mix8 hS8 hZl (by omega) (by omega) m with h | h | h
        · rw [h]
          have := fin (A2 := B) (M2 := M') (Z2 := Z) hS8 hM' hZl (by omega) (by omega) (by omega) (by omega)
          exact ⟨.inr (.inr this.1), this.2⟩
        · rw [h, ← e]; exact ⟨.inr (.inl rfl), hNew⟩
        · by_cases he : numN B = numN (B.take m ++ Z.drop m)
          · have : B.take m ++ Z.drop m = B := by
              apply numN_inj
              · simp [hS8, hZl]; omega
              · exact he.symm
            rw [this, ← e]; exact ⟨.inr (.inl rfl), hNew⟩
          · have := fin (A2 := B) (M2 := M') (Z2 := B.take m ++ Z.drop m) hS8 hM' (by simp [hS8, hZl]; omega) (by omega) (by rw [h]; omega) he (by rw [h]; omega)
            exact ⟨.inr (.inr this.1), this.2⟩
      · have : DiskM.splicePage n x.page p = x.page := by
          unfold DiskM.splicePage
          rw [List.take_of_length_le (by rw [LeafM.length_page hx]; omega), List.drop_eq_nil_of_le (by omega), List.append_nil]
        rw [this]; exact ⟨.inr (.inl rfl), hNew⟩
end LogM

namespace DiskM
/-- Pages behind a row of writes to pages that follow one another, each of which is torn. -/
theorem torn_pages (f : Nat → Nat) (pages : List (List UInt8)) (base : Nat) (g : Nat → List UInt8) : ∀ m, base + m ≤ pages.length → ∀ j,
    (donePages f pages ((List.range m).map fun t => (base + t, g t))).getD j [] = if base ≤ j ∧ j < base + m then splicePage (f (j - base)) (g (j - base)) (pages.getD j []) else pages.getD j []
  | 0, _, j => by rw [if_neg (by omega)]; rfl
  | m + 1, h, j => by
    have ih := torn_pages f pages base g m (by omega)
    rw [List.range_succ, List.map_append, List.map_cons, List.map_nil, donePages_snoc]
    unfold doneOne
    simp only [List.length_map, List.length_range]
    rw [getD_set_in _ _ _ _ _ (by rw [length_donePages]; omega)]
    by_cases hj : base + m = j
    · rw [if_pos hj, if_pos (by omega), ih, if_neg (by omega), hj, show j - base = m from by omega]
    · rw [if_neg hj, ih]
      by_cases h2 : base ≤ j ∧ j < base + m
      · rw [if_pos h2, if_pos (by omega)]
      · rw [if_neg h2, if_neg (by omega)]
end DiskM
end Go.Proofs.YtfgggkheadfiaaaR
