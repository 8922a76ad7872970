/- The disk as a plain Lean thing (pages, the row, the countdown), and how it lies in memory. No program in sight but the types' numbers. -/
import Derived.Test.YtfgggkheadfiaaaRBase
namespace Go.Proofs.YtfgggkheadfiaaaR
open Go Go.RowKit

structure DiskM where
  pages : List (List UInt8)
  row : List (Nat × List UInt8)
  left : Int
  dead : Bool

namespace DiskM
def wf (d : DiskM) : Prop :=
  1 ≤ d.pages.length ∧ d.pages.length ≤ 4096 ∧ (∀ p ∈ d.pages, p.length = 512) ∧ (∀ x ∈ d.row, x.1 < d.pages.length ∧ x.2.length = 512) ∧ -1 ≤ d.left ∧ d.left ≤ 9223372036854775807
def asked (d : DiskM) (at' n : Int) : Int := if d.dead then 9 else if at' < 0 ∨ (d.pages.length : Int) ≤ at' ∨ n ≠ 512 then 1 else 0
def counted (d : DiskM) (e : Int) : DiskM × Int :=
  if e ≠ 0 ∨ d.left < 0 then (d, e) else if d.left = 0 then ({ d with dead := true }, 9) else ({ d with left := d.left - 1 }, 0)
def seenIn (at' : Nat) (p : List UInt8) (row : List (Nat × List UInt8)) : List UInt8 := row.foldl (fun p x => if x.1 = at' then x.2 else p) p
def seen (d : DiskM) (at' : Nat) : List UInt8 := seenIn at' (d.pages.getD at' []) d.row
def read (d : DiskM) (at' : Int) : List UInt8 × Int := if d.asked at' 512 ≠ 0 then ([], d.asked at' 512) else (d.seen at'.toNat, 0)
def write (d : DiskM) (at' : Int) (b : List UInt8) : DiskM × Int :=
  let c := d.counted (d.asked at' b.length)
  if c.2 ≠ 0 then c else ({ c.1 with row := c.1.row ++ [(at'.toNat, b)] }, 0)
def splicePage (n : Nat) (new old : List UInt8) : List UInt8 := new.take n ++ old.drop n
def doneOne (f : Nat → Nat) (pages : List (List UInt8)) (x : (Nat × List UInt8) × Nat) : List (List UInt8) :=
  pages.set x.1.1 (splicePage (f x.2) x.1.2 (pages.getD x.1.1 []))
def donePages (f : Nat → Nat) (pages : List (List UInt8)) (row : List (Nat × List UInt8)) : List (List UInt8) := row.zipIdx.foldl (doneOne f) pages
def done (d : DiskM) (f : Nat → Nat) : DiskM := { d with pages := donePages f d.pages d.row, row := [] }
def sync (d : DiskM) : DiskM × Int :=
  let c := d.counted (d.asked 0 512)
  if c.2 ≠ 0 then c else (c.1.done fun _ => 512, 0)
def fuse (d : DiskM) (n : Int) : DiskM := if d.dead then d else { d with left := max (-1) n }
def kill (d : DiskM) : DiskM := { d with dead := true }
def fate (fates : List Int) (i : Nat) : Nat := ((fates.getD i 0) % 513).toNat
def restart (d : DiskM) (fates : List Int) : DiskM := { d.done (fate fates) with dead := false, left := -1 }
def blank : List UInt8 := List.replicate 512 0
def new (n : Nat) : DiskM := { pages := List.replicate n blank, row := [], left := -1, dead := false }

theorem fate_le (fates : List Int) (i : Nat) : fate fates i ≤ 512 := by unfold fate; omega
theorem length_splicePage {n : Nat} {a b : List UInt8} (ha : a.length = 512) (hb : b.length = 512) (hn : n ≤ 512) : (splicePage n a b).length = 512 := by
  simp [splicePage]; omega
theorem getD_wf {pages : List (List UInt8)} (h : ∀ p ∈ pages, p.length = 512) {i : Nat} (hi : i < pages.length) : (pages.getD i []).length = 512 := by
  simp only [List.getD_eq_getElem?_getD, List.getElem?_eq_getElem hi, Option.getD_some]
  exact h _ (List.getElem_mem hi)
theorem doneOne_wf (f : Nat → Nat) (hf : ∀ i, f i ≤ 512) {pages : List (List UInt8)} (h : ∀ p ∈ pages, p.length = 512) (x : (Nat × List UInt8) × Nat) (hx : x.1.1 < pages.length) (hl : x.1.2.length = 512) :
    (doneOne f pages x).length = pages.length ∧ ∀ p ∈ doneOne f pages x, p.length = 512 := by
  refine ⟨by simp [doneOne], fun p hp => ?_⟩
  rcases List.mem_or_eq_of_mem_set hp with hp | rfl
  · exact h p hp
  · exact length_splicePage hl (getD_wf h hx) (hf _)
theorem counted_wf {d : DiskM} (h : d.wf) (e : Int) : (d.counted e).1.wf := by
  obtain ⟨h1, h2, h3, h4, h5, h6⟩ := h
  unfold counted
  split
  · exact ⟨h1, h2, h3, h4, h5, h6⟩
  · split
    · exact ⟨h1, h2, h3, h4, h5, h6⟩
    · rename_i a b
      simp only [not_or] at a
      exact ⟨h1, h2, h3, h4, by show -1 ≤ d.left - 1; omega, by show d.left - 1 ≤ _; omega⟩
theorem counted_same (d : DiskM) (e : Int) : (d.counted e).1.pages = d.pages ∧ (d.counted e).1.row = d.row := by
  unfold counted; split
  · exact ⟨rfl, rfl⟩
  · split <;> exact ⟨rfl, rfl⟩
end DiskM

def rowCells (row : List (Nat × List UInt8)) : List Value := row.flatMap fun x => Value.int .i64 (x.1 : Int) :: bvs x.2
theorem rowCells_snoc (row : List (Nat × List UInt8)) (x : Nat × List UInt8) : rowCells (row ++ [x]) = rowCells row ++ (Value.int .i64 (x.1 : Int) :: bvs x.2) := by simp [rowCells]
theorem length_rowCells : ∀ (row : List (Nat × List UInt8)), (∀ x ∈ row, x.2.length = 512) → (rowCells row).length = row.length * 513
  | [], _ => rfl
  | x :: r, h => by
    have := length_rowCells r (fun y hy => h y (by simp [hy]))
    have h2 := h x (by simp)
    simp only [rowCells, List.flatMap_cons, List.length_append, List.length_cons, length_bvs] at this ⊢
    rw [this, h2]; omega
/-- One entry's cells. -/
theorem get_rowCells : ∀ (row : List (Nat × List UInt8)) (i : Nat) (hi : i < row.length), (∀ x ∈ row, x.2.length = 512) → ((rowCells row).drop (i * 513)).take 513 = Value.int .i64 (row[i].1 : Int) :: bvs row[i].2
  | x :: r, 0, _, h => by
    have h2 := h x (by simp)
    simp only [rowCells, List.flatMap_cons, Nat.zero_mul, List.drop_zero, List.getElem_cons_zero]
    rw [List.take_left']
    simp [h2]
  | x :: r, i + 1, hi, h => by
    have h2 := h x (by simp)
    have ih := get_rowCells r i (by simpa using hi) (fun y hy => h y (by simp [hy]))
    simp only [rowCells, List.flatMap_cons, List.getElem_cons_succ]
    rw [show (i + 1) * 513 = (Value.int .i64 (x.1 : Int) :: bvs x.2).length + i * 513 from by simp [h2]; omega, List.drop_append]
    rw [List.drop_eq_nil_of_le (by omega), List.nil_append, Nat.add_sub_cancel_left]
    exact ih
/-- One page's cells. -/
theorem get_pages : ∀ (pages : List (List UInt8)) (i : Nat), i < pages.length → (∀ p ∈ pages, p.length = 512) → (pages.flatten.drop (i * 512)).take 512 = pages.getD i []
  | x :: r, 0, _, h => by
    have h2 := h x (by simp)
    simp only [List.flatten_cons, Nat.zero_mul, List.drop_zero]
    rw [List.take_left' h2]; rfl
  | x :: r, i + 1, hi, h => by
    have h2 := h x (by simp)
    have ih := get_pages r i (by simpa using hi) (fun y hy => h y (by simp [hy]))
    simp only [List.flatten_cons]
    rw [show (i + 1) * 512 = x.length + i * 512 from by rw [h2]; omega, List.drop_append]
    rw [List.drop_eq_nil_of_le (by omega), List.nil_append, Nat.add_sub_cancel_left]
    exact ih
theorem length_pages : ∀ (pages : List (List UInt8)), (∀ p ∈ pages, p.length = 512) → pages.flatten.length = pages.length * 512
  | [], _ => rfl
  | x :: r, h => by
    have := length_pages r (fun y hy => h y (by simp [hy]))
    have h2 := h x (by simp)
    simp only [List.flatten_cons, List.length_append, List.length_cons]
    omega
/-- A page's first bytes are written. -/
theorem set_pages : ∀ (pages : List (List UInt8)) (i : Nat) (q : List UInt8), i < pages.length → (∀ p ∈ pages, p.length = 512) → q.length ≤ 512 →
    pages.flatten.take (i * 512) ++ q ++ pages.flatten.drop (i * 512 + q.length) = (pages.set i (q ++ (pages.getD i []).drop q.length)).flatten
  | x :: r, 0, q, _, h, hq => by
    have h2 := h x (by simp)
    simp only [List.flatten_cons, Nat.zero_mul, List.take_zero, List.nil_append, Nat.zero_add, List.set_cons_zero, List.getD_cons_zero, List.append_assoc]
    rw [List.drop_append_of_le_length (by omega)]
  | x :: r, i + 1, q, hi, h, hq => by
    have h2 := h x (by simp)
    have ih := set_pages r i q (by simpa using hi) (fun y hy => h y (by simp [hy])) hq
    simp only [List.flatten_cons, List.set_cons_succ, List.getD_cons_succ]
    rw [← ih]
    rw [show (i + 1) * 512 = x.length + i * 512 from by rw [h2]; omega, List.take_length_add_append, Nat.add_assoc, List.drop_length_add_append]
    simp [List.append_assoc]

/-- The disk d lies at block p; its blocks are the object D's. -/
def DiskAt (w : World) (o : Own) (D p : Nat) (d : DiskM) : Prop :=
  ∃ bl rv,
    w.heap[p]? = some (.cells #[.slice (some ⟨bl, 0, none⟩) d.pages.length d.pages.length, rv, .int .i64 d.left, .bool d.dead] 123 (0, 0)) ∧
    w.heap[bl]? = some (.cells (bvs d.pages.flatten).toArray 127 (0, 0)) ∧
    w.ownsRow 0 129 513 rv d.row.length (rowCells d.row) ∧
    o p = (D, 0) ∧ o bl = (D, 1) ∧ (∀ k, rv.ownBlock = some k → o k = (D, 2)) ∧ d.wf

theorem ownsRow_same {w w' : World} {base : Nat} {e : TypeId} {size : Nat} {v : Value} {n : Nat} {xs : List Value} (h : w.ownsRow base e size v n xs)
    (hs : ∀ k, v.ownBlock = some k → w'.heap[k]? = w.heap[k]?) : w'.ownsRow base e size v n xs := by
  refine ⟨h.1, ?_⟩
  rcases h.2 with hn | ⟨g, cap, cur, rfl, hb, hg, rest⟩
  · exact .inl hn
  · exact .inr ⟨g, cap, cur, rfl, hb, by rw [hs g rfl]; exact hg, rest⟩

theorem DiskAt.step {T : Nat → Prop} {w w' : World} {o o' : Own} {D p : Nat} {d : DiskM} (h : DiskAt w o D p d) (s : Step T w o w' o') (hT : ¬ T D) : DiskAt w' o' D p d := by
  obtain ⟨bl, rv, hp, hl, hr, op, ol, orr, hwf⟩ := h
  have hpl := lt_of_block hp
  have hll := lt_of_block hl
  refine ⟨bl, rv, ?_, ?_, ?_, ?_, ?_, ?_, hwf⟩
  · rw [s.block p hpl (by rw [op]; exact hT)]; exact hp
  · rw [s.block bl hll (by rw [ol]; exact hT)]; exact hl
  · exact ownsRow_same hr fun k hk => s.block k (hr.lt k hk).2 (by rw [orr k hk]; exact hT)
  · rw [s.own p hpl]; exact op
  · rw [s.own bl hll]; exact ol
  · intro k hk; rw [s.own k (hr.lt k hk).2]; exact orr k hk

theorem DiskAt.wf {w : World} {o : Own} {D p : Nat} {d : DiskM} (h : DiskAt w o D p d) : d.wf := by
  obtain ⟨bl, rv, hp, hl, hr, op, ol, orr, hwf⟩ := h; exact hwf
theorem DiskAt.lt {w : World} {o : Own} {D p : Nat} {d : DiskM} (h : DiskAt w o D p d) : p < w.heap.size := by
  obtain ⟨bl, rv, hp, hl, hr, op, ol, orr, hwf⟩ := h; exact lt_of_block hp
end Go.Proofs.YtfgggkheadfiaaaR
