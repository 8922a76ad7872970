/- Plain words and laws that all of this seat's walks share: bytes as cells, the ghost map that says whose a block is, and how a world may change. Over any program; no conditions. -/
import Derived.WalkKit
import Derived.WalkSpells
import Derived.WalkLawsBesides
import Derived.Deep.MidRow
import Derived.Deep.AppendLies
import Derived.Test.YtfgggkheadfiaaaRProg
import Derived.Deep.QuietTactic
import Derived.BigQuiet
import Derived.StillTailTactics
import Derived.Deep.RegionHeld3
import Derived.Deep.DrawnRows
import Derived.ProofKit
import Derived.OpenShut
namespace Go.Proofs.YtfgggkheadfiaaaR
open Go Go.RowKit

/-- A byte as a cell. -/
def bv (x : UInt8) : Value := .int .u8 (x.toNat : Int)
def bvs (l : List UInt8) : List Value := l.map bv

@[simp] theorem length_bvs (l : List UInt8) : (bvs l).length = l.length := by simp [bvs]
@[simp] theorem bvs_nil : bvs [] = [] := rfl
@[simp] theorem bvs_append (l m : List UInt8) : bvs (l ++ m) = bvs l ++ bvs m := by simp [bvs]
theorem bvs_take (l : List UInt8) (n : Nat) : (bvs l).take n = bvs (l.take n) := by simp [bvs]
theorem bvs_drop (l : List UInt8) (n : Nat) : (bvs l).drop n = bvs (l.drop n) := by simp [bvs]
theorem one_bvs (l : List UInt8) : ∀ v ∈ bvs l, v.oneCell' = true := by
  intro v hv
  simp only [bvs, List.mem_map] at hv
  obtain ⟨x, _, rfl⟩ := hv
  rfl
theorem one_cons {x : Value} {l : List Value} (hx : x.oneCell' = true) (h : ∀ v ∈ l, v.oneCell' = true) : ∀ v ∈ x :: l, v.oneCell' = true := by
  intro v hv
  rcases List.mem_cons.1 hv with rfl | hv
  · exact hx
  · exact h v hv
theorem get_bvs (l : List UInt8) (j : Nat) : (bvs l)[j]? = l[j]?.map bv := by simp [bvs]

/-- Whose a block is: an object's number, and which part of it. 0: plain data, not written any more. -/
abbrev Own := Nat → Nat × Nat

def tagAt (o : Own) (k : Nat) (t : Nat × Nat) : Own := fun i => if i = k then t else o i
@[simp] theorem tagAt_same (o : Own) (k : Nat) (t : Nat × Nat) : tagAt o k t k = t := by simp [tagAt]
theorem tagAt_other (o : Own) {k i : Nat} (t : Nat × Nat) (h : i ≠ k) : tagAt o k t i = o i := by simp [tagAt, h]

/-- From w to w' nothing that was there has turned, but for blocks of the objects T. -/
structure Step (T : Nat → Prop) (w : World) (o : Own) (w' : World) (o' : Own) : Prop where
  os : w'.os = w.os
  tape : w'.tape = w.tape
  output : w'.output = w.output
  size : w.heap.size ≤ w'.heap.size
  own : ∀ k, k < w.heap.size → o' k = o k
  block : ∀ k, k < w.heap.size → ¬ T (o k).1 → w'.heap[k]? = w.heap[k]?

def Nobody : Nat → Prop := fun _ => False
def Only (D : Nat) : Nat → Prop := fun k => k = D

section
variable {T T' : Nat → Prop} {w w1 w2 : World} {o o1 o2 : Own}

theorem Step.refl (T : Nat → Prop) (w : World) (o : Own) : Step T w o w o := ⟨rfl, rfl, rfl, Nat.le_refl _, fun _ _ => rfl, fun _ _ _ => rfl⟩
theorem Step.trans (h : Step T w o w1 o1) (g : Step T w1 o1 w2 o2) : Step T w o w2 o2 :=
  ⟨g.os.trans h.os, g.tape.trans h.tape, g.output.trans h.output, Nat.le_trans h.size g.size,
   fun k hk => (g.own k (Nat.lt_of_lt_of_le hk h.size)).trans (h.own k hk),
   fun k hk ht => (g.block k (Nat.lt_of_lt_of_le hk h.size) (by rw [h.own k hk]; exact ht)).trans (h.block k hk ht)⟩
theorem Step.mono (h : Step T w o w1 o1) (hT : ∀ k, T k → T' k) : Step T' w o w1 o1 :=
  ⟨h.os, h.tape, h.output, h.size, h.own, fun k hk ht => h.block k hk (fun hx => ht (hT _ hx))⟩
theorem Step.alloc (h : Step T w o w1 o1) (ob : Obj) (t : Nat × Nat) : Step T w o (w1.alloc ob) (tagAt o1 w1.heap.size t) :=
  h.trans ⟨rfl, rfl, rfl, by simp, fun k hk => tagAt_other _ _ (by omega), fun k hk _ => Below.heap_alloc _ _ _ hk⟩
theorem Step.alloc' (h : Step T w o w1 o1) (ob : Obj) : Step T w o (w1.alloc ob) o1 :=
  h.trans ⟨rfl, rfl, rfl, by simp, fun _ _ => rfl, fun k hk _ => Below.heap_alloc _ _ _ hk⟩
theorem Step.drew (h : Step T w o w1 o1) : Step T w o w1.drew o1 := ⟨h.os, h.tape, h.output, h.size, h.own, h.block⟩
theorem Step.setCell (h : Step T w o w1 o1) {a : Addr} (v : Value) (ha : T (o1 a.block).1 ∨ w.heap.size ≤ a.block) : Step T w o (w1.setCell a v) o1 := by
  refine ⟨h.os, h.tape, h.output, by simpa using h.size, h.own, fun k hk ht => ?_⟩
  rw [Below.heap_setCell]
  · exact h.block k hk ht
  · rintro rfl
    rcases ha with ha | ha
    · rw [h.own _ hk] at ha; exact ht ha
    · omega
theorem Step.nobody {D : Nat} (h : Step (Only D) w o w1 o1) (hD : ∀ k, k < w.heap.size → (o k).1 ≠ D) : Step Nobody w o w1 o1 :=
  ⟨h.os, h.tape, h.output, h.size, h.own, fun k hk _ => h.block k hk (hD k hk)⟩
theorem Step.only (h : Step Nobody w o w1 o1) (D : Nat) : Step (Only D) w o w1 o1 := h.mono fun _ x => x.elim
theorem Step.below (h : Step Nobody w o w1 o1) : Below w.heap.size w w1 :=
  ⟨h.os, h.tape, h.output, h.size, fun k hk => h.block k hk (fun x => x)⟩
end

theorem tag_bound (o : Own) (b : Nat) : ∀ n : Nat, ∃ M, b ≤ M ∧ ∀ k, k < n → (o k).1 ≤ M
  | 0 => ⟨b, Nat.le_refl _, fun k hk => by omega⟩
  | n + 1 => by
    obtain ⟨M, h1, h2⟩ := tag_bound o b n
    refine ⟨max M (o n).1, by omega, fun k hk => ?_⟩
    by_cases hkn : k = n
    · subst hkn; omega
    · have := h2 k (by omega); omega
/-- An object's number that nothing bears yet. -/
theorem fresh_tag (o : Own) (n b : Nat) : ∃ D, b < D ∧ ∀ k, k < n → (o k).1 ≠ D := by
  obtain ⟨M, h1, h2⟩ := tag_bound o b n
  exact ⟨M + 1, by omega, fun k hk => by have := h2 k hk; omega⟩
theorem heap_setCells_other (b : Nat) : ∀ (vs : List Value) (off : Nat) (w : World) (k : Nat), k ≠ b → (w.setCells b off vs).heap[k]? = w.heap[k]?
  | [], _, _, _, _ => rfl
  | v :: r, off, w, k, h => by
    rw [World.setCells, heap_setCells_other b r (off + 1) _ k h, Below.heap_setCell _ _ _ _ h]
theorem size_setCells (b : Nat) : ∀ (vs : List Value) (off : Nat) (w : World), (w.setCells b off vs).heap.size = w.heap.size
  | [], _, _ => rfl
  | v :: r, off, w => by rw [World.setCells, size_setCells b r]; simp
theorem setCells_os (b : Nat) : ∀ (vs : List Value) (off : Nat) (w : World), (w.setCells b off vs).os = w.os ∧ (w.setCells b off vs).tape = w.tape ∧ (w.setCells b off vs).output = w.output
  | [], _, _ => ⟨rfl, rfl, rfl⟩
  | v :: r, off, w => by rw [World.setCells]; exact setCells_os b r _ _
theorem Step.setCells {T : Nat → Prop} {w w1 : World} {o o1 : Own} (h : Step T w o w1 o1) (b off : Nat) (vs : List Value) (ha : T (o1 b).1 ∨ w.heap.size ≤ b) : Step T w o (w1.setCells b off vs) o1 := by
  obtain ⟨e1, e2, e3⟩ := setCells_os b vs off w1
  refine ⟨e1.trans h.os, e2.trans h.tape, e3.trans h.output, by rw [size_setCells]; exact h.size, h.own, fun k hk ht => ?_⟩
  rw [heap_setCells_other]
  · exact h.block k hk ht
  · rintro rfl
    rcases ha with ha | ha
    · rw [h.own _ hk] at ha; exact ht ha
    · omega

/-- What a block holds behind a store of many cells. -/
theorem heap_setCells_same (b : Nat) (E : TypeId) : ∀ (vs : List Value) (off : Nat) (w : World) (cs : List Value), w.heap[b]? = some (.cells cs.toArray E (0, 0)) → off + vs.length ≤ cs.length →
    (w.setCells b off vs).heap[b]? = some (.cells (cs.take off ++ vs ++ cs.drop (off + vs.length)).toArray E (0, 0))
  | [], off, w, cs, h, _ => by simp [World.setCells, h]
  | v :: r, off, w, cs, h, hl => by
    have hb := lt_of_block h
    have h1 : (w.setCell ⟨b, off, none⟩ v).heap[b]? = some (.cells (cs.set off v).toArray E (0, 0)) := by
      simp only [World.setCell, Array.getElem?_modify]
      simp [h]
    rw [World.setCells, heap_setCells_same b E r (off + 1) _ _ h1 (by simp at hl ⊢; omega)]
    simp only [List.length_cons] at hl ⊢
    congr 3
    rw [List.take_set, List.drop_set]
    rw [if_pos (by omega)]
    have : off < cs.length := by omega
    rw [List.take_add_one]
    simp only [List.getElem?_eq_getElem this, Option.toList]
    rw [List.set_append_right _ _ (by simp; omega)]
    simp only [List.length_take]
    rw [Nat.min_eq_left (by omega)]
    simp
    congr 1
    omega

theorem heap_setCell_at {w : World} {b i : Nat} {cs : List Value} {E : TypeId} (v : Value) (h : w.heap[b]? = some (.cells cs.toArray E (0, 0))) :
    (w.setCell ⟨b, i, none⟩ v).heap[b]? = some (.cells (cs.set i v).toArray E (0, 0)) := by
  simp only [World.setCell, Array.getElem?_modify]
  simp [h]

theorem cell_of_block {w : World} {b : Nat} {cs : List Value} {E : TypeId} {fr : Nat × Nat} (h : w.heap[b]? = some (.cells cs.toArray E fr)) (i : Nat) : w.cell? ⟨b, i, none⟩ = cs[i]? := by
  simp [World.cell?, h]
theorem free_of_block {w : World} {b : Nat} {cs : List Value} {E : TypeId} (h : w.heap[b]? = some (.cells cs.toArray E (0, 0))) (i : Nat) : w.frozen? ⟨b, i, none⟩ = false := by
  simp [World.frozen?, h]
theorem range_of_block {w : World} {b : Nat} {cs : List Value} {E : TypeId} {fr : Nat × Nat} (h : w.heap[b]? = some (.cells cs.toArray E fr)) (off n : Nat) : w.rangeAt b off ((cs.drop off).take n) := by
  intro j v hj
  rw [cell_of_block h]
  rw [List.getElem?_take] at hj
  split at hj
  · simpa using hj
  · cases hj
theorem there_of_block {w : World} {b : Nat} {cs : List Value} {E : TypeId} (h : w.heap[b]? = some (.cells cs.toArray E (0, 0))) (off n : Nat) (hn : off + n ≤ cs.length) : w.there b off n := by
  intro j hj
  refine ⟨?_, free_of_block h _⟩
  rw [cell_of_block h, List.getElem?_eq_getElem (by omega)]; rfl
theorem range_whole {w : World} {b : Nat} {cs : List Value} {E : TypeId} {fr : Nat × Nat} (h : w.heap[b]? = some (.cells cs.toArray E fr)) : w.rangeAt b 0 cs := by
  have := range_of_block h 0 cs.length
  simpa using this
theorem range_same {w w' : World} {b off : Nat} {cs : List Value} (h : w.rangeAt b off cs) (e : w'.heap[b]? = w.heap[b]?) : w'.rangeAt b off cs := fun j v hj => by
  rw [World.cell?_of_block (w := w) (a := ⟨b, off + j, none⟩) e]; exact h j v hj
theorem range_part {w : World} {b off : Nat} {cs : List Value} (h : w.rangeAt b off cs) (i n : Nat) : w.rangeAt b (off + i) ((cs.drop i).take n) := fun j v hj => by
  rw [List.getElem?_take] at hj
  split at hj
  · have := h (i + j) v (by simpa using hj)
    rwa [← Nat.add_assoc] at this
  · cases hj
theorem range_lt {w : World} {b off : Nat} {cs : List Value} (h : w.rangeAt b off cs) (hc : 0 < cs.length) : b < w.heap.size := by
  have := h 0 _ (List.getElem?_eq_getElem hc)
  exact World.block_lt_of_cell? w _ this

/-- A new variable is made and at once written whole. -/
theorem setCells_alloc_whole (w : World) (zs : Array Value) (E : TypeId) (vs : List Value) (hl : zs.size = vs.length) :
    (w.alloc (.cells zs E)).setCells w.heap.size 0 vs = w.alloc (.cells vs.toArray E) := by
  have hh := heap_setCells_same w.heap.size E vs 0 (w.alloc (.cells zs E)) zs.toList (by simpa using heap_alloc_new w (.cells zs E)) (by simp [hl])
  obtain ⟨e1, e2, e3⟩ := setCells_os w.heap.size vs 0 (w.alloc (.cells zs E))
  have e4 : ((w.alloc (.cells zs E)).setCells w.heap.size 0 vs).drawn = w.drawn := by
    have : ∀ (vs : List Value) (off : Nat) (x : World), (x.setCells w.heap.size off vs).drawn = x.drawn := by
      intro vs
      induction vs with
      | nil => intros; rfl
      | cons v r ih => intro off x; rw [World.setCells, ih]; rfl
    rw [this]; rfl
  have e5 : ((w.alloc (.cells zs E)).setCells w.heap.size 0 vs).heap = (w.alloc (.cells vs.toArray E)).heap := by
    apply Array.ext_getElem?
    intro i
    by_cases hi : i = w.heap.size
    · subst hi
      rw [hh, heap_alloc_new]
      simp [hl]
    · rw [heap_setCells_other _ _ _ _ _ hi]
      simp only [World.alloc, Array.getElem?_push, hi, if_false]
  revert e1 e2 e3 e4 e5
  generalize (w.alloc (.cells zs E)).setCells w.heap.size 0 vs = x
  intro e1 e2 e3 e4 e5
  cases x
  simp only at e1 e2 e3 e4 e5
  subst e1 e2 e3 e4 e5
  rfl

theorem hidden {p : Prop} (h : p) : Hid p := h

/-! ### Bytes -/
/-- v is a slice of n elements, whose cells are cs: plain data. (Of an empty one the address says nothing.) -/
def Slc (w : World) (o : Own) (v : Value) (n : Nat) (cs : List Value) : Prop :=
  ((∃ a c, v = .slice a 0 c) ∧ n = 0 ∧ cs = []) ∨ ∃ b off cap, v = .slice (some ⟨b, off, none⟩) n cap ∧ n ≤ cap ∧ cap ≤ maxLen ∧ (o b).1 = 0 ∧ b < w.heap.size ∧ w.rangeAt b off cs
theorem Slc.step {T : Nat → Prop} {w w' : World} {o o' : Own} {v : Value} {n : Nat} {cs : List Value} (h : Slc w o v n cs) (s : Step T w o w' o') (hT : ¬ T 0) : Slc w' o' v n cs := by
  rcases h with h | ⟨b, off, cap, hv, hl, hm, ho, hb, hr⟩
  · exact .inl h
  · exact .inr ⟨b, off, cap, hv, hl, hm, by rw [s.own b hb]; exact ho, Nat.lt_of_lt_of_le hb s.size, range_same hr (s.block b hb (by rw [ho]; exact hT))⟩
theorem slc_form {w : World} {o : Own} {v : Value} {n : Nat} {cs : List Value} (h : Slc w o v n cs) : ∃ a c, v = .slice a n c := by
  rcases h with ⟨⟨a, c, rfl⟩, rfl, _⟩ | ⟨b, off, cap, rfl, _⟩ <;> exact ⟨_, _, rfl⟩
/-- v reads as the bytes l: plain data. -/
def Bytes (w : World) (o : Own) (v : Value) (l : List UInt8) : Prop := Slc w o v l.length (bvs l)
theorem Bytes.cases {w : World} {o : Own} {v : Value} {l : List UInt8} (h : Bytes w o v l) : ((∃ a c, v = .slice a 0 c) ∧ l = []) ∨
    ∃ b off cap, v = .slice (some ⟨b, off, none⟩) l.length cap ∧ l.length ≤ cap ∧ cap ≤ maxLen ∧ (o b).1 = 0 ∧ b < w.heap.size ∧ w.rangeAt b off (bvs l) := by
  rcases h with ⟨h1, h2, _⟩ | h
  · exact .inl ⟨h1, List.eq_nil_of_length_eq_zero h2⟩
  · exact .inr h
theorem Bytes.nil (w : World) (o : Own) : Bytes w o (.slice none 0 0) [] := .inl ⟨⟨_, _, rfl⟩, rfl, rfl⟩
theorem Bytes.step {T : Nat → Prop} {w w' : World} {o o' : Own} {v : Value} {l : List UInt8} (h : Bytes w o v l) (s : Step T w o w' o') (hT : ¬ T 0) : Bytes w' o' v l := Slc.step h s hT

/-! ### Contracts -/
/-- The call returns v, nothing but T's blocks has turned, and Q. -/
def Ret (T : Nat → Prop) (w : World) (o : Own) (Q : Value → World → Own → Prop) : Ending → World → Prop :=
  fun e w' => ∃ v o', e = .returned v ∧ Step T w o w' o' ∧ Q v w' o'

section
variable {P : Program} {ops : Array Oper} {rest : List Oper} {op : Oper} {a : Act} {w : World} {Q : Exit → Act → World → Prop}

theorem run_alloc_zero (w : World) (ty : TypeId) (zs : Array Value) (hz : ((P.info? ty).bind (·.zero)).map (·.cells) = some zs) :
    (Instr.alloc ty true (.tuple #[])).run P w = .ok (.pointer (some ⟨w.heap.size, 0, none⟩)) (w.alloc (.cells zs ty)) := by
  cases hi : P.info? ty with
  | none => simp [hi] at hz
  | some i =>
    cases hq : i.zero with
    | none => simp [hi, hq] at hz
    | some z =>
      simp only [hi, hq, Option.bind_some, Option.map_some, Option.some.injEq] at hz
      subst hz
      simp [Instr.alloc, zeroValue, typeInfo, hi, hq, newVar, newRow]

end

/-! ### make -/
theorem toList_madeCells (zs : Array Value) : ∀ n : Nat, (madeCells zs (n * zs.size)).toList = (List.replicate n zs.toList).flatten
  | 0 => by simp [madeCells]
  | n + 1 => by
    have ih := toList_madeCells zs n
    rw [List.replicate_succ', List.flatten_append, ← ih]
    apply List.ext_getElem
    · simp [madeCells, Nat.add_mul]
    · intro i h1 h2
      simp only [madeCells, Array.length_toList, Array.size_map, Array.size_range] at h1
      simp only [madeCells, Array.getElem_toList, Array.getElem_map, Array.getElem_range, List.getElem_append, Array.length_toList, Array.size_map, Array.size_range]
      split
      · rfl
      · rename_i hlt
        have hz : i - n * zs.size < zs.size := by rw [Nat.add_mul] at h1; omega
        have hm : i % zs.size = i - n * zs.size := by
          have e : i = (i - n * zs.size) + n * zs.size := by omega
          have := Nat.add_mul_mod_self_right (i - n * zs.size) n zs.size
          rw [← e] at this
          rw [this, Nat.mod_eq_of_lt hz]
        simp [hm, hz]

theorem run_make_zero {P : Program} (w : World) (t e : TypeId) (zs : List Value) (size bytes : Nat) (ht : P.underlying t = some (.slice e))
    (hi : (P.info? e).map (fun i => (i.zero.map (fun z => z.cells.toList), i.size, i.bytes)) = some (some zs, size, bytes)) (hzs : zs.length = size) (n : Nat) (hb : bytes * n ≤ 281474976710656) (h63 : n ≤ 9223372036854775807) (k kc : IntKind) :
    (Instr.makeSlice t (.int k (n : Int)) (.int kc (n : Int))).run P w = .ok (.slice (some ⟨w.heap.size, 0, none⟩) n n) (w.alloc (.cells (List.replicate n zs).flatten.toArray e)) := by
  cases hq : P.info? e with
  | none => simp [hq] at hi
  | some i =>
    cases hz : i.zero with
    | none => simp [hq, hz] at hi
    | some z =>
      simp only [hq, hz, Option.map_some, Option.some.injEq, Prod.mk.injEq] at hi
      obtain ⟨e1, e2, e3⟩ := hi
      have hb' : (i.bytes : Int) * (n : Int) ≤ 281474976710656 := by
        have h : ((i.bytes * n : Nat) : Int) ≤ 281474976710656 := by rw [e3]; omega
        rwa [Int.natCast_mul] at h
      have hr := run_make (P := P) w t e i z ht hq hz k kc n n (by omega) (Int.le_refl _) hb' (by omega)
      rw [hr]
      have hsz : z.cells.size = i.size := by rw [e2, ← hzs, ← e1]; simp
      have := toList_madeCells z.cells n
      rw [e1, hsz] at this
      simp only [Int.toNat_natCast]
      rw [← this]

#print axioms setCells_alloc_whole
end Go.Proofs.YtfgggkheadfiaaaR
/- The disk as a plain Lean thing (pages, the row, the countdown), and how it lies in memory. No program in sight but the types' numbers. -/
namespace Go.Proofs.YtfgggkheadfiaaaR
open Go Go.RowKit

structure DiskM where
  pages : List (List UInt8)
  row : List (Nat × List UInt8)
  left : Int
  dead : Bool

namespace DiskM
def wf (d : DiskM) : Prop :=
  1 ≤ d.pages.length ∧ d.pages.length ≤ 4096 ∧ (∀ p ∈ d.pages, p.length = 512) ∧ (∀ x ∈ d.row, x.1 < d.pages.length ∧ x.2.length = 512) ∧ -1 ≤ d.left ∧ d.left ≤ 9223372036854775807
def asked (d : DiskM) (at' n : Int) : Int := if d.dead then 9 else if at' < 0 ∨ (d.pages.length : Int) ≤ at' ∨ n ≠ 512 then 1 else 0
def counted (d : DiskM) (e : Int) : DiskM × Int :=
  if e ≠ 0 ∨ d.left < 0 then (d, e) else if d.left = 0 then ({ d with dead := true }, 9) else ({ d with left := d.left - 1 }, 0)
def seenIn (at' : Nat) (p : List UInt8) (row : List (Nat × List UInt8)) : List UInt8 := row.foldl (fun p x => if x.1 = at' then x.2 else p) p
def seen (d : DiskM) (at' : Nat) : List UInt8 := seenIn at' (d.pages.getD at' []) d.row
def read (d : DiskM) (at' : Int) : List UInt8 × Int := if d.asked at' 512 ≠ 0 then ([], d.asked at' 512) else (d.seen at'.toNat, 0)
def write (d : DiskM) (at' : Int) (b : List UInt8) : DiskM × Int :=
  let c := d.counted (d.asked at' b.length)
  if c.2 ≠ 0 then c else ({ c.1 with row := c.1.row ++ [(at'.toNat, b)] }, 0)
def splicePage (n : Nat) (new old : List UInt8) : List UInt8 := new.take n ++ old.drop n
def doneOne (f : Nat → Nat) (pages : List (List UInt8)) (x : (Nat × List UInt8) × Nat) : List (List UInt8) :=
  pages.set x.1.1 (splicePage (f x.2) x.1.2 (pages.getD x.1.1 []))
def donePages (f : Nat → Nat) (pages : List (List UInt8)) (row : List (Nat × List UInt8)) : List (List UInt8) := row.zipIdx.foldl (doneOne f) pages
def done (d : DiskM) (f : Nat → Nat) : DiskM := { d with pages := donePages f d.pages d.row, row := [] }
def sync (d : DiskM) : DiskM × Int :=
  let c := d.counted (d.asked 0 512)
  if c.2 ≠ 0 then c else (c.1.done fun _ => 512, 0)
def fuse (d : DiskM) (n : Int) : DiskM := if d.dead then d else { d with left := max (-1) n }
def kill (d : DiskM) : DiskM := { d with dead := true }
def fate (fates : List Int) (i : Nat) : Nat := ((fates.getD i 0) % 513).toNat
def restart (d : DiskM) (fates : List Int) : DiskM := { d.done (fate fates) with dead := false, left := -1 }
def blank : List UInt8 := List.replicate 512 0
def new (n : Nat) : DiskM := { pages := List.replicate n blank, row := [], left := -1, dead := false }

theorem fate_le (fates : List Int) (i : Nat) : fate fates i ≤ 512 := by unfold fate; omega
theorem length_splicePage {n : Nat} {a b : List UInt8} (ha : a.length = 512) (hb : b.length = 512) (hn : n ≤ 512) : (splicePage n a b).length = 512 := by
  simp [splicePage]; omega
theorem getD_wf {pages : List (List UInt8)} (h : ∀ p ∈ pages, p.length = 512) {i : Nat} (hi : i < pages.length) : (pages.getD i []).length = 512 := by
  simp only [List.getD_eq_getElem?_getD, List.getElem?_eq_getElem hi, Option.getD_some]
  exact h _ (List.getElem_mem hi)
theorem doneOne_wf (f : Nat → Nat) (hf : ∀ i, f i ≤ 512) {pages : List (List UInt8)} (h : ∀ p ∈ pages, p.length = 512) (x : (Nat × List UInt8) × Nat) (hx : x.1.1 < pages.length) (hl : x.1.2.length = 512) :
    (doneOne f pages x).length = pages.length ∧ ∀ p ∈ doneOne f pages x, p.length = 512 := by
  refine ⟨by simp [doneOne], fun p hp => ?_⟩
  rcases List.mem_or_eq_of_mem_set hp with hp | rfl
  · exact h p hp
  · exact length_splicePage hl (getD_wf h hx) (hf _)
theorem counted_same (d : DiskM) (e : Int) : (d.counted e).1.pages = d.pages ∧ (d.counted e).1.row = d.row := by
  unfold counted; split
  · exact ⟨rfl, rfl⟩
  · split <;> exact ⟨rfl, rfl⟩
end DiskM

def rowCells (row : List (Nat × List UInt8)) : List Value := row.flatMap fun x => Value.int .i64 (x.1 : Int) :: bvs x.2
theorem rowCells_snoc (row : List (Nat × List UInt8)) (x : Nat × List UInt8) : rowCells (row ++ [x]) = rowCells row ++ (Value.int .i64 (x.1 : Int) :: bvs x.2) := by simp [rowCells]
/-- One entry's cells. -/
theorem get_rowCells : ∀ (row : List (Nat × List UInt8)) (i : Nat) (hi : i < row.length), (∀ x ∈ row, x.2.length = 512) → ((rowCells row).drop (i * 513)).take 513 = Value.int .i64 (row[i].1 : Int) :: bvs row[i].2
  | x :: r, 0, _, h => by
    have h2 := h x (by simp)
    simp only [rowCells, List.flatMap_cons, Nat.zero_mul, List.drop_zero, List.getElem_cons_zero]
    rw [List.take_left']
    simp [h2]
  | x :: r, i + 1, hi, h => by
    have h2 := h x (by simp)
    have ih := get_rowCells r i (by simpa using hi) (fun y hy => h y (by simp [hy]))
    simp only [rowCells, List.flatMap_cons, List.getElem_cons_succ]
    rw [show (i + 1) * 513 = (Value.int .i64 (x.1 : Int) :: bvs x.2).length + i * 513 from by simp [h2]; omega, List.drop_append]
    rw [List.drop_eq_nil_of_le (by omega), List.nil_append, Nat.add_sub_cancel_left]
    exact ih
/-- One page's cells. -/
theorem get_pages : ∀ (pages : List (List UInt8)) (i : Nat), i < pages.length → (∀ p ∈ pages, p.length = 512) → (pages.flatten.drop (i * 512)).take 512 = pages.getD i []
  | x :: r, 0, _, h => by
    have h2 := h x (by simp)
    simp only [List.flatten_cons, Nat.zero_mul, List.drop_zero]
    rw [List.take_left' h2]; rfl
  | x :: r, i + 1, hi, h => by
    have h2 := h x (by simp)
    have ih := get_pages r i (by simpa using hi) (fun y hy => h y (by simp [hy]))
    simp only [List.flatten_cons]
    rw [show (i + 1) * 512 = x.length + i * 512 from by rw [h2]; omega, List.drop_append]
    rw [List.drop_eq_nil_of_le (by omega), List.nil_append, Nat.add_sub_cancel_left]
    exact ih
theorem length_pages : ∀ (pages : List (List UInt8)), (∀ p ∈ pages, p.length = 512) → pages.flatten.length = pages.length * 512
  | [], _ => rfl
  | x :: r, h => by
    have := length_pages r (fun y hy => h y (by simp [hy]))
    have h2 := h x (by simp)
    simp only [List.flatten_cons, List.length_append, List.length_cons]
    omega
/-- A page's first bytes are written. -/
theorem set_pages : ∀ (pages : List (List UInt8)) (i : Nat) (q : List UInt8), i < pages.length → (∀ p ∈ pages, p.length = 512) → q.length ≤ 512 →
    pages.flatten.take (i * 512) ++ q ++ pages.flatten.drop (i * 512 + q.length) = (pages.set i (q ++ (pages.getD i []).drop q.length)).flatten
  | x :: r, 0, q, _, h, hq => by
    have h2 := h x (by simp)
    simp only [List.flatten_cons, Nat.zero_mul, List.take_zero, List.nil_append, Nat.zero_add, List.set_cons_zero, List.getD_cons_zero, List.append_assoc]
    rw [List.drop_append_of_le_length (by omega)]
  | x :: r, i + 1, q, hi, h, hq => by
    have h2 := h x (by simp)
    have ih := set_pages r i q (by simpa using hi) (fun y hy => h y (by simp [hy])) hq
    simp only [List.flatten_cons, List.set_cons_succ, List.getD_cons_succ]
    rw [← ih]
    rw [show (i + 1) * 512 = x.length + i * 512 from by rw [h2]; omega, List.take_length_add_append, Nat.add_assoc, List.drop_length_add_append]
    simp [List.append_assoc]

/-- The disk d lies at block p; its blocks are the object D's. -/
def DiskAt (w : World) (o : Own) (D p : Nat) (d : DiskM) : Prop :=
  ∃ bl rv,
    w.heap[p]? = some (.cells #[.slice (some ⟨bl, 0, none⟩) d.pages.length d.pages.length, rv, .int .i64 d.left, .bool d.dead] 123 (0, 0)) ∧
    w.heap[bl]? = some (.cells (bvs d.pages.flatten).toArray 127 (0, 0)) ∧
    w.ownsRow 0 129 513 rv d.row.length (rowCells d.row) ∧
    o p = (D, 0) ∧ o bl = (D, 1) ∧ (∀ k, rv.ownBlock = some k → o k = (D, 2)) ∧ d.wf

theorem ownsRow_same {w w' : World} {base : Nat} {e : TypeId} {size : Nat} {v : Value} {n : Nat} {xs : List Value} (h : w.ownsRow base e size v n xs)
    (hs : ∀ k, v.ownBlock = some k → w'.heap[k]? = w.heap[k]?) : w'.ownsRow base e size v n xs := by
  refine ⟨h.1, ?_⟩
  rcases h.2 with hn | ⟨g, cap, cur, rfl, hb, hg, rest⟩
  · exact .inl hn
  · exact .inr ⟨g, cap, cur, rfl, hb, by rw [hs g rfl]; exact hg, rest⟩

theorem DiskAt.step {T : Nat → Prop} {w w' : World} {o o' : Own} {D p : Nat} {d : DiskM} (h : DiskAt w o D p d) (s : Step T w o w' o') (hT : ¬ T D) : DiskAt w' o' D p d := by
  obtain ⟨bl, rv, hp, hl, hr, op, ol, orr, hwf⟩ := h
  have hpl := lt_of_block hp
  have hll := lt_of_block hl
  refine ⟨bl, rv, ?_, ?_, ?_, ?_, ?_, ?_, hwf⟩
  · rw [s.block p hpl (by rw [op]; exact hT)]; exact hp
  · rw [s.block bl hll (by rw [ol]; exact hT)]; exact hl
  · exact ownsRow_same hr fun k hk => s.block k (hr.lt k hk).2 (by rw [orr k hk]; exact hT)
  · rw [s.own p hpl]; exact op
  · rw [s.own bl hll]; exact ol
  · intro k hk; rw [s.own k (hr.lt k hk).2]; exact orr k hk

theorem DiskAt.wf {w : World} {o : Own} {D p : Nat} {d : DiskM} (h : DiskAt w o D p d) : d.wf := by
  obtain ⟨bl, rv, hp, hl, hr, op, ol, orr, hwf⟩ := h; exact hwf
theorem DiskAt.lt {w : World} {o : Own} {D p : Nat} {d : DiskM} (h : DiskAt w o D p d) : p < w.heap.size := by
  obtain ⟨bl, rv, hp, hl, hr, op, ol, orr, hwf⟩ := h; exact lt_of_block hp
end Go.Proofs.YtfgggkheadfiaaaR
/- Contracts of the disk's small functions: asked, counted, Dead, Kill, Fuse, Size, Waiting. -/
namespace Go.Proofs.YtfgggkheadfiaaaR
open Go Go.RowKit

/-- A store into the disk's own struct. -/
theorem DiskAt.open {w : World} {o : Own} {D p : Nat} {d : DiskM} (h : DiskAt w o D p d) : ∃ bl rv,
    (w.cell? ⟨p, 0, none⟩ = some (.slice (some ⟨bl, 0, none⟩) d.pages.length d.pages.length) ∧ w.cell? ⟨p, 1, none⟩ = some rv ∧ w.cell? ⟨p, 2, none⟩ = some (.int .i64 d.left) ∧ w.cell? ⟨p, 3, none⟩ = some (.bool d.dead)) ∧
    (w.frozen? ⟨p, 1, none⟩ = false ∧ w.frozen? ⟨p, 2, none⟩ = false ∧ w.frozen? ⟨p, 3, none⟩ = false) ∧
    w.heap[bl]? = some (.cells (bvs d.pages.flatten).toArray 127 (0, 0)) ∧ w.ownsRow 0 129 513 rv d.row.length (rowCells d.row) ∧
    o p = (D, 0) ∧ o bl = (D, 1) ∧ (∀ k, rv.ownBlock = some k → o k = (D, 2)) := by
  obtain ⟨bl, rv, hp, hl, hr, op, ol, orr, hwf⟩ := h
  exact ⟨bl, rv, ⟨cell_of_block hp 0, cell_of_block hp 1, cell_of_block hp 2, cell_of_block hp 3⟩, ⟨free_of_block hp 1, free_of_block hp 2, free_of_block hp 3⟩, hl, hr, op, ol, orr⟩

/-- What becomes of the disk where its countdown or its power is written. -/
theorem DiskAt.setLeft {w : World} {o : Own} {D p : Nat} {d : DiskM} (h : DiskAt w o D p d) (n : Int) (hn : -1 ≤ n ∧ n ≤ 9223372036854775807) : DiskAt (w.setCell ⟨p, 2, none⟩ (.int .i64 n)) o D p { d with left := n } := by
  obtain ⟨bl, rv, hp, hl, hr, op, ol, orr, hwf⟩ := h
  refine ⟨bl, rv, heap_setCell_at _ hp, ?_, ?_, op, ol, orr, ?_⟩
  · rw [Below.heap_setCell _ _ _ _ (by rintro rfl; rw [op] at ol; simp at ol)]; exact hl
  · refine ownsRow_same hr fun k hk => Below.heap_setCell _ _ _ _ ?_
    rintro rfl; have := orr _ hk; rw [op] at this; simp at this
  · obtain ⟨h1, h2, h3, h4, h5, h6⟩ := hwf; exact ⟨h1, h2, h3, h4, hn.1, hn.2⟩
theorem DiskAt.setDead {w : World} {o : Own} {D p : Nat} {d : DiskM} (h : DiskAt w o D p d) (b : Bool) : DiskAt (w.setCell ⟨p, 3, none⟩ (.bool b)) o D p { d with dead := b } := by
  obtain ⟨bl, rv, hp, hl, hr, op, ol, orr, hwf⟩ := h
  refine ⟨bl, rv, heap_setCell_at _ hp, ?_, ?_, op, ol, orr, hwf⟩
  · rw [Below.heap_setCell _ _ _ _ (by rintro rfl; rw [op] at ol; simp at ol)]; exact hl
  · refine ownsRow_same hr fun k hk => Below.heap_setCell _ _ _ _ ?_
    rintro rfl; have := orr _ hk; rw [op] at this; simp at this
theorem DiskAt.ofD {w : World} {o : Own} {D p : Nat} {d : DiskM} (h : DiskAt w o D p d) : (o p).1 = D := by
  obtain ⟨bl, rv, hp, hl, hr, op, ol, orr, hwf⟩ := h; rw [op]
theorem DiskAt.setStep {w : World} {o : Own} {D p : Nat} {d : DiskM} (h : DiskAt w o D p d) (i : Nat) (v : Value) : Step (Only D) w o (w.setCell ⟨p, i, none⟩ v) o :=
  (Step.refl _ w o).setCell v (.inl h.ofD)

set_option maxHeartbeats 400000 in
theorem dead_any {w : World} {o : Own} {D p : Nat} {d : DiskM} (h : DiskAt w o D p d) :
    Calls Try.prog 28 #[.pointer (some ⟨p, 0, none⟩)] w fun e w' => e = .returned (.bool d.dead) ∧ w = w' := by
  obtain ⟨bl, rv, ⟨c0, c1, c2, c3⟩, ⟨f1, f2, f3⟩, hl, hr, op, ol, orr⟩ := h.open
  clear op ol orr hr hl
  go_enter Try.func28, Try.ntmps28
  go_wp2
  go_ret
  exact ⟨rfl, rfl⟩
set_option maxHeartbeats 400000 in
theorem kill_any {w : World} {o : Own} {D p : Nat} {d : DiskM} (h : DiskAt w o D p d) :
    Calls Try.prog 32 #[.pointer (some ⟨p, 0, none⟩)] w (Ret (Only D) w o fun v w' o' => v = .tuple #[] ∧ DiskAt w' o' D p d.kill) := by
  have hs := h.setStep 3 (.bool true)
  have hd := h.setDead true
  obtain ⟨bl, rv, ⟨c0, c1, c2, c3⟩, ⟨f1, f2, f3⟩, hl, hr, op, ol, orr⟩ := h.open
  clear op ol orr hr hl
  go_enter Try.func32, Try.ntmps32
  go_wp2
  go_end0
  exact ⟨_, o, rfl, hs, rfl, hd⟩
set_option maxHeartbeats 400000 in
theorem asked_any {w : World} {o : Own} {D p : Nat} {d : DiskM} (h : DiskAt w o D p d) (at' n : Int) :
    Calls Try.prog 68 #[.pointer (some ⟨p, 0, none⟩), .int .i64 at', .int .i64 n] w fun e w' => e = .returned (.int .i64 (d.asked at' n)) ∧ w = w' := by
  obtain ⟨bl, rv, ⟨c0, c1, c2, c3⟩, ⟨f1, f2, f3⟩, hl, hr, op, ol, orr⟩ := h.open
  clear op ol orr hr hl
  by_cases hd : d.dead = true
  · rw [hd] at c3
    have hE : d.asked at' n = 9 := by simp [DiskM.asked, hd]
    rw [hE]
    go_enter Try.func68, Try.ntmps68
    go_wp2
    go_ret
    exact ⟨rfl, rfl⟩
  · have hd' : d.dead = false := by simpa using hd
    rw [hd'] at c3
    by_cases h1 : at' < 0
    · have hE : d.asked at' n = 1 := by simp [DiskM.asked, hd', h1]
      rw [hE]
      go_enter Try.func68, Try.ntmps68
      go_wp2
      go_ret
      exact ⟨rfl, rfl⟩
    · by_cases h2 : (d.pages.length : Int) ≤ at'
      · have hE : d.asked at' n = 1 := by simp [DiskM.asked, hd', h2]
        rw [hE]
        go_enter Try.func68, Try.ntmps68
        go_wp2
        go_ret
        exact ⟨rfl, rfl⟩
      · by_cases h3 : n = 512
        · have hE : d.asked at' n = 0 := by simp [DiskM.asked, hd', h1, h2, h3]
          rw [hE]
          subst h3
          go_enter Try.func68, Try.ntmps68
          go_wp2
          go_ret
          exact ⟨rfl, rfl⟩
        · have hE : d.asked at' n = 1 := by simp [DiskM.asked, hd', h3]
          rw [hE]
          have h3' : (n != 512) = true := by simpa using h3
          clear h3
          go_enter Try.func68, Try.ntmps68
          go_wp2
          go_ret
          exact ⟨rfl, rfl⟩
set_option maxHeartbeats 400000 in
theorem counted_any {w : World} {o : Own} {D p : Nat} {d : DiskM} (h : DiskAt w o D p d) (n : Int) :
    Calls Try.prog 67 #[.pointer (some ⟨p, 0, none⟩), .int .i64 n] w (Ret (Only D) w o fun v w' o' => v = .int .i64 (d.counted n).2 ∧ DiskAt w' o' D p (d.counted n).1) := by
  have hwf := h.wf
  obtain ⟨-, -, -, -, b1, b2⟩ := hwf
  obtain ⟨bl, rv, ⟨c0, c1, c2, c3⟩, ⟨f1, f2, f3⟩, hl, hr, op, ol, orr⟩ := h.open
  clear op ol orr hr hl
  by_cases h1 : n = 0
  · subst h1
    by_cases h2 : d.left < 0
    · have hE : d.counted 0 = (d, 0) := by simp [DiskM.counted, h2]
      rw [hE]
      go_enter Try.func67, Try.ntmps67
      go_wp2
      go_ret
      exact ⟨_, o, rfl, Step.refl _ _ _, rfl, h⟩
    · by_cases h3 : d.left = 0
      · have hE : d.counted 0 = ({ d with dead := true }, 9) := by simp [DiskM.counted, h3]
        rw [hE]
        rw [h3] at c2
        have hs := h.setStep 3 (.bool true)
        have hd := h.setDead true
        clear h3 h2 b1 b2
        go_enter Try.func67, Try.ntmps67
        go_wp2
        go_ret
        exact ⟨_, o, rfl, hs, rfl, hd⟩
      · have hE : d.counted 0 = ({ d with left := d.left - 1 }, 0) := by simp [DiskM.counted, h2, h3]
        rw [hE]
        have hs := h.setStep 2 (.int .i64 (d.left - 1))
        have hd := h.setLeft (d.left - 1) (by omega)
        have h3' : (d.left == 0) = false := by simpa using h3
        clear h3
        go_enter Try.func67, Try.ntmps67
        go_wp2
        go_ret
        exact ⟨_, o, rfl, hs, rfl, hd⟩
  · have hE : d.counted n = (d, n) := by simp [DiskM.counted, h1]
    rw [hE]
    have h1' : (n != 0) = true := by simpa using h1
    clear h1
    go_enter Try.func67, Try.ntmps67
    go_wp2
    go_ret
    exact ⟨_, o, rfl, Step.refl _ _ _, rfl, h⟩
set_option maxHeartbeats 400000 in
theorem size_any {w : World} {o : Own} {D p : Nat} {d : DiskM} (h : DiskAt w o D p d) :
    Calls Try.prog 34 #[.pointer (some ⟨p, 0, none⟩)] w fun e w' => e = .returned (.int .i64 d.pages.length) ∧ w = w' := by
  obtain ⟨bl, rv, ⟨c0, c1, c2, c3⟩, ⟨f1, f2, f3⟩, hl, hr, op, ol, orr⟩ := h.open
  clear op ol orr hr hl
  go_enter Try.func34, Try.ntmps34
  go_wp2
  go_ret
  exact ⟨rfl, rfl⟩
theorem row_form {w : World} {rv : Value} {n : Nat} {xs : List Value} (h : w.ownsRow 0 129 513 rv n xs) : ∃ a cap, rv = .slice a n cap := by
  rcases h.2 with ⟨rfl, rfl⟩ | ⟨g, cap, cur, rfl, _⟩
  · exact ⟨_, _, rfl⟩
  · exact ⟨_, _, rfl⟩
set_option maxHeartbeats 400000 in
theorem waiting_any {w : World} {o : Own} {D p : Nat} {d : DiskM} (h : DiskAt w o D p d) :
    Calls Try.prog 29 #[.pointer (some ⟨p, 0, none⟩)] w fun e w' => e = .returned (.int .i64 d.row.length) ∧ w = w' := by
  obtain ⟨bl, rv, ⟨c0, c1, c2, c3⟩, ⟨f1, f2, f3⟩, hl, hr, op, ol, orr⟩ := h.open
  obtain ⟨a, cap, rfl⟩ := row_form hr
  clear op ol orr hr hl
  go_enter Try.func29, Try.ntmps29
  go_wp2
  go_ret
  exact ⟨rfl, rfl⟩
end Go.Proofs.YtfgggkheadfiaaaR
/- Laws on values of many cells that are put together: a struct of two parts, a slice literal of one element, append of one element, copy. Over any program; no conditions. -/
namespace Go.Proofs.YtfgggkheadfiaaaR
open Go Go.RowKit

theorem fold_set (off : Nat) : ∀ (vs : List Value) (j : Nat) (cs : List Value), off + j + vs.length ≤ cs.length →
    (((vs.zipIdx j).foldl (fun (cs : Array Value) x => cs.setIfInBounds (off + x.2) x.1) cs.toArray) : Array Value) = (cs.take (off + j) ++ vs ++ cs.drop (off + j + vs.length)).toArray
  | [], j, cs, _ => by simp
  | v :: r, j, cs, h => by
    simp only [List.zipIdx_cons, List.foldl_cons, List.setIfInBounds_toArray]
    rw [fold_set off r (j + 1) _ (by simp at h ⊢; omega)]
    simp only [List.length_cons] at h ⊢
    congr 1
    rw [List.take_set, List.drop_set, if_pos (by omega)]
    rw [show off + (j + 1) = (off + j) + 1 from by omega, List.take_add_one]
    have hlt : off + j < cs.length := by omega
    simp only [List.getElem?_eq_getElem hlt, Option.toList]
    rw [List.set_append_right _ _ (by simp; omega)]
    simp only [List.length_take]
    rw [Nat.min_eq_left (by omega)]
    simp
    congr 1
    omega

theorem fold_cells (off : Nat) (vs cs : List Value) (h : off + vs.length ≤ cs.length) :
    (vs.toArray.zipIdx.foldl (fun (cs : Array Value) (x : Value × Nat) => cs.setIfInBounds (off + x.2) x.1) cs.toArray : Array Value) = (cs.take off ++ vs ++ cs.drop (off + vs.length)).toArray := by
  have := fold_set off vs 0 cs (by simpa using h)
  simp only [Nat.add_zero] at this
  rw [← this, ← Array.foldl_toList]
  congr 1
  simp

section
variable {P : Program}

/-- 'T{a, b}': both fields of a struct of two are told. -/
theorem run_build_two (w : World) (t : TypeId) (f0 f1 : Field) (zs : List Value) (v0 v1 : Value) (c0 c1 : List Value)
    (hu : P.underlying t = some (.struct #[f0, f1])) (hz : ((P.info? t).bind (·.zero)).map (fun z => z.cells.toList) = some zs)
    (h0 : f0.offset = 0) (h1 : f1.offset = c0.length) (s0 : (P.info? f0.type).map (·.size) = some c0.length) (s1 : (P.info? f1.type).map (·.size) = some c1.length)
    (hl : zs.length = c0.length + c1.length) (e0 : v0.cells = c0.toArray) (e1 : v1.cells = c1.toArray) :
    (Instr.build t #[(0, v0), (1, v1)]).run P w = .ok (.agg (c0 ++ c1).toArray) w := by
  cases hi : P.info? t with
  | none => simp [hi] at hz
  | some i =>
    cases hq : i.zero with
    | none => simp [hi, hq] at hz
    | some z =>
      cases hi0 : P.info? f0.type with
      | none => simp [hi0] at s0
      | some i0 =>
        cases hi1 : P.info? f1.type with
        | none => simp [hi1] at s1
        | some i1 =>
          simp only [hi, hq, Option.bind_some, Option.map_some, Option.some.injEq] at hz
          simp only [hi0, Option.map_some, Option.some.injEq] at s0
          simp only [hi1, Option.map_some, Option.some.injEq] at s1
          have hzc : z.cells = zs.toArray := by rw [← hz]
          have F0 := fold_cells 0 c0 zs (by omega)
          have F1 := fold_cells c0.length c1 (c0 ++ zs.drop c0.length) (by simp; omega)
          have F0' : (zs.take 0 ++ c0 ++ zs.drop (0 + c0.length)) = c0 ++ zs.drop c0.length := by simp
          rw [F0'] at F0
          have F1' : ((c0 ++ zs.drop c0.length).take c0.length ++ c1 ++ (c0 ++ zs.drop c0.length).drop (c0.length + c1.length)) = c0 ++ c1 := by
            rw [List.take_left, List.drop_eq_nil_of_le (by simp; omega)]; simp
          rw [F1'] at F1
          have hp : ∀ x : World, (program).run P x = .ok P x := fun _ => rfl
          simp only [Instr.build, zeroValue, typeInfo, sizeOf, Sem.run_bind, hp, Result.andThen_ok, hi, hq, Sem.run_pure, run_underlying hu, hzc]
          simp only [List.mapM_toArray, List.mapM_cons, List.mapM_nil, Sem.run_bind, Sem.run_map, hp, Result.andThen_ok, hi0, hi1, Sem.run_pure, s0, s1, h0, h1]
          simp only [Instr.fill, e0, e1, List.size_toArray]
          simp
          rw [if_neg (by omega)]
          simp at F0 F1
          rw [F0]
          simp
          rw [if_neg (by omega), F1]
          simp

/-- '[]T{x}': one element, as 'append(xs, x)' lays it. -/
theorem run_buildSlice_one (w : World) (t e : TypeId) (zs : List Value) (v : Value) (c : List Value) (hu : P.underlying t = some (.slice e))
    (hz : (P.info? e).map (fun i => (i.zero.map (fun z => z.cells.toList), i.size)) = some (some zs, c.length)) (hl : zs.length = c.length) (hc : 0 < c.length) (hc2 : c.length ≤ 16777216) (ev : v.cells = c.toArray) :
    (Instr.buildSlice t 1 #[(0, v)]).run P w = .ok (.slice (some ⟨w.heap.size, 0, none⟩) 1 1) (w.alloc (.cells c.toArray e)) := by
  cases hi : P.info? e with
  | none => simp [hi] at hz
  | some i =>
    cases hq : i.zero with
    | none => simp [hi, hq] at hz
    | some z =>
      simp only [hi, hq, Option.map_some, Option.some.injEq, Prod.mk.injEq] at hz
      obtain ⟨hz, hs⟩ := hz
      have hzc : z.cells = zs.toArray := by rw [← hz]
      have hp : ∀ x : World, (program).run P x = .ok P x := fun _ => rfl
      have hm : (Array.map (fun x => zs.toArray[x % zs.toArray.size]!) (Array.range (1 * c.length))) = zs.toArray := by
        have := toList_madeCells zs.toArray 1
        simp only [madeCells, List.size_toArray, hl] at this
        apply Array.toList_inj.1
        simpa [hl] using this
      have F0 := fold_cells 0 c zs (by omega)
      have F0' : (zs.take 0 ++ c ++ zs.drop (0 + c.length)) = c := by simp; omega
      rw [F0'] at F0
      simp only [Instr.buildSlice, sizeOf, zeroValue, typeInfo, Sem.run_bind, hp, Result.andThen_ok, run_underlying hu, hi, Sem.run_pure, hs]
      rw [if_neg (by omega), if_neg (by omega)]
      simp only [Sem.run_bind, Sem.run_pure, hp, Result.andThen_ok, hi, hq, hzc, hm]
      simp only [Instr.fill, ev, List.size_toArray]
      simp
      rw [if_neg (by omega)]
      simp at F0
      rw [F0]
      simp [newRow]

theorem info_of {e : TypeId} {zs : List Value} {size bytes : Nat} (hi : (P.info? e).map (fun i => (i.zero.map (fun z => z.cells.toList), i.size, i.bytes)) = some (some zs, size, bytes)) :
    ∃ i z, P.info? e = some i ∧ i.zero = some z ∧ i.size = size ∧ i.bytes = bytes ∧ z.cells = zs.toArray := by
  cases hq : P.info? e with
  | none => simp [hq] at hi
  | some i =>
    cases hz : i.zero with
    | none => simp [hq, hz] at hi
    | some z =>
      simp only [hq, hz, Option.map_some, Option.some.injEq, Prod.mk.injEq] at hi
      obtain ⟨e1, e2, e3⟩ := hi
      exact ⟨i, z, rfl, hz, e2, e3, by rw [← e1]⟩

/-- append onto a row that is owned: what the new value owns, and where it lies. -/
theorem run_append_row (W : World) (t ty e : TypeId) {base : Nat} {zs : List Value} {size bytes : Nat} (ht : P.underlying t = some (.slice e))
    (hi : (P.info? e).map (fun i => (i.zero.map (fun z => z.cells.toList), i.size, i.bytes)) = some (some zs, size, bytes)) (hzs : zs.length = size) (hsz : 0 < size) (hbase : base ≤ W.heap.size)
    (v : Value) (n : Nat) (xs : List Value) (hown : W.ownsRow base e size v n xs) (b off m c : Nat) (news : List Value) (hl : news.length = m * size) (hr : W.rangeAt b off news) (h1 : ∀ u ∈ news, u.oneCell' = true)
    (hm : 0 < m) (h63 : n + m ≤ 9223372036854775807) (hbytes : (n + m) * bytes ≤ 140737488355328) :
    ∃ g cap w', (Builtin.append_ #[t, t] ty #[v, .slice (some ⟨b, off, none⟩) m c]).run P W = .ok (.slice (some ⟨g, 0, none⟩) (n + m) cap) w' ∧
      w'.ownsRow base e size (.slice (some ⟨g, 0, none⟩) (n + m) cap) (n + m) (xs ++ news) ∧ W.grownBy w' v.ownBlock ∧ (v.ownBlock = some g ∨ g = W.heap.size) ∧ g < w'.heap.size := by
  obtain ⟨i, z, hq, hz, e2, e3, e4⟩ := info_of hi
  exact run_append_lies (P := P) W t ty base e i z size bytes ht hq hz e2 e3 (by rw [e4]; simpa using hzs) hsz v n xs hown ⟨b, off, none⟩ m c news hl
    (fun j u hu => by rw [Addr.add_mid]; exact hr j u hu) h1 hm (by simp only [maxLen]; exact h63) hbytes hbase W.heap.size rfl
end

/-- Behind an append: the row's own block, old or new, is the object's. -/
theorem Step.grown {T : Nat → Prop} {w W w' : World} {o o1 : Own} (h : Step T w o W o1) {row : Option Nat} (hg : W.grownBy w' row) (hrow : ∀ k, row = some k → T (o1 k).1 ∨ w.heap.size ≤ k) (g : Nat) (t : Nat × Nat)
    (hgk : o1 g = t ∨ W.heap.size ≤ g) : Step T w o w' (tagAt o1 g t) := by
  refine ⟨hg.os.trans h.os, hg.tape.trans h.tape, hg.output.trans h.output, Nat.le_trans h.size hg.size, fun k hk => ?_, fun k hk ht => ?_⟩
  · have hk' := Nat.lt_of_lt_of_le hk h.size
    by_cases hkg : k = g
    · subst hkg
      rcases hgk with hgk | hgk
      · rw [tagAt_same, ← hgk]; exact h.own k hk
      · omega
    · rw [tagAt_other _ _ hkg]; exact h.own k hk
  · rw [hg.block k (Nat.lt_of_lt_of_le hk h.size) ?_]
    · exact h.block k hk ht
    · intro hx
      rcases hrow k hx.symm with h1 | h1
      · rw [h.own k hk] at h1; exact ht h1
      · omega
end Go.Proofs.YtfgggkheadfiaaaR
/- Regions that draw their order: loads may be taken first although the region's last stores hit what they load, as those stores wait for them. After Derived/OrdersHeld.lean's theorems, with a condition S that is asked only behind the operations that 'need' names. -/
namespace Go.Proofs.YtfgggkheadfiaaaR
open Go Go.RowKit

section
variable {P : Program} {ops : Array Oper} {Q : Exit → Act → World → Prop} {md : Region.Mode} {S : World → Prop} {need : Nat → Bool}

def wpAnyN (P : Program) (md : Region.Mode) (ops : Array Oper) (Q : Exit → Act → World → Prop) (S : World → Prop) (need : Nat → Bool) : Nat → Array Bool → Act → World → Prop
  | 0, listed, a, w => Region.ready md ops listed = [] ∧ Q .normal a w
  | fuel + 1, listed, a, w =>
    (Region.ready md ops listed = [] → Q .normal a w) ∧
    ∀ i ∈ Region.ready md ops listed, wpOp P ops Q i (fun a' w' => (need i = true → S w') ∧ wpAnyN P md ops Q S need fuel (listed.setIfInBounds i true) a' w') a w

theorem wpAny_of_need : ∀ (fuel : Nat) (listed : Array Bool) (a : Act) (w : World), wpAnyN P md ops Q S need fuel listed a w → wpAny P md ops Q fuel listed a w
  | 0, _, _, _, h => h
  | fuel + 1, _, _, _, h => ⟨h.1, fun i hi => wpOp_mono (fun a' w' h' => wpAny_of_need fuel _ a' w' h'.2) (h.2 i hi)⟩

/-- Each operation behind which S is not asked waits for number i. -/
def needOk (md : Region.Mode) (ops : Array Oper) (need : Nat → Bool) (i : Nat) : Bool :=
  (List.range ops.size).all fun j => need j || match ops[j]? with
    | some oj => oj.after.any (fun e => Region.binds md e && e.on == i)
    | none => true

theorem needOk_spec {i : Nat} (h : needOk md ops need i = true) (j : Nat) (oj : Oper) (hj : ops[j]? = some oj) (hno : ∀ e ∈ oj.after, Region.binds md e = true → e.on ≠ i) : need j = true := by
  simp only [needOk, List.all_eq_true, List.mem_range] at h
  have h1 := h j (Array.getElem?_eq_some_iff.1 hj).1
  simp only [hj, Bool.or_eq_true] at h1
  rcases h1 with h1 | h1
  · exact h1
  · obtain ⟨e, he, hb⟩ := Array.any_eq_true'.1 h1
    simp only [Bool.and_eq_true, beq_iff_eq] at hb
    exact absurd hb.2 (hno e he hb.1)

theorem wpAnyN_first {i : Nat} {oi : Oper} {v : Value} (hi : ops[i]? = some oi) (hsel : ∀ (j : Nat) (o : Oper) cs b, ops[j]? = some o → o.op ≠ .select cs b)
    (hQ : ∀ c a w, Q (.panic c) (a.put oi.dst v) w → Q (.panic c) a w) (hn : needOk md ops need i = true) :
    ∀ (fuel : Nat) (listed : Array Bool) (a : Act) (w : World),
      (∀ j oj, ops[j]? = some oj → j ≠ i → listed.getD j true = false → (∀ e ∈ oj.after, Region.binds md e = true → e.on ≠ i) → oi.apart ops oj = true) →
      i ∈ Region.ready md ops listed → YieldsIf P ops S oi v a → S w →
      wpAnyN P md ops Q S need fuel (listed.setIfInBounds i true) (a.put oi.dst v) w → wpAnyN P md ops Q S need (fuel + 1) listed a w := by
  intro fuel
  induction fuel with
  | zero =>
    intro listed a w _ hr hy hS H
    refine ⟨fun h => (by rw [h] at hr; cases hr), fun j hj => ?_⟩
    by_cases hji : j = i
    · subst hji; exact hy.wpOp hi hS ⟨fun _ => hS, H⟩
    · have := ready_mono hj hji
      rw [H.1] at this
      cases this
  | succ fuel ih =>
    intro listed a w hfree hr hy hS H
    refine ⟨fun h => (by rw [h] at hr; cases hr), fun j hj => ?_⟩
    by_cases hji : j = i
    · subst hji; exact hy.wpOp hi hS ⟨fun _ => hS, H⟩
    · have h1 := H.2 j (ready_mono hj hji)
      obtain ⟨hjun, oj, hoj, hall⟩ := mem_ready.1 hj
      have hnot : ∀ e ∈ oj.after, Region.binds md e = true → e.on ≠ i := fun e he hb heq => by
        have h1 := hall e he hb
        have h0 := (mem_ready.1 hr).1
        rw [heq] at h1
        rcases Nat.lt_or_ge i listed.size with h' | h'
        · simp [h'] at h0 h1; rw [h0] at h1; cases h1
        · simp [Array.getElem?_eq_none h'] at h1
      have hneed := needOk_spec hn j oj hoj hnot
      have h2 := wpOp_putIf hoj (hfree j oj hoj hji hjun hnot) (fun cs b => hsel i oi cs b hi) (fun cs b => hsel j oj cs b hoj) hQ hy h1
      have hfree' : ∀ k ok, ops[k]? = some ok → k ≠ i → (listed.setIfInBounds j true).getD k true = false →
          (∀ e ∈ ok.after, Region.binds md e = true → e.on ≠ i) → oi.apart ops ok = true := fun k ok hk hki hun hno => by
        refine hfree k ok hk hki ?_ hno
        by_cases hjk : j = k
        · subst hjk; exact hjun
        · rw [getD_set_ne true hjk] at hun; exact hun
      refine wpOp_mono (fun a' w' h3 => ⟨fun _ => h3.2.1 hneed, ih (listed.setIfInBounds j true) a' w' hfree' (ready_mono hr (Ne.symm hji)) h3.1 (h3.2.1 hneed) ?_⟩) h2
      rw [Array.setIfInBounds_comm _ _ hji]
      exact h3.2.2

theorem at_of_drop {i : Nat} {oi : Oper} (h : (ops.toList.drop i).head? = some oi) : ops[i]? = some oi := by
  rw [List.head?_drop] at h
  simpa using h

/-- Take number i first. -/
theorem wpAnyN_take {i : Nat} {oi : Oper} {v : Value} {fuel : Nat} {listed : Array Bool} {a : Act} {w : World} (hi : (ops.toList.drop i).head? = some oi)
    (hs : Region.noSelect ops = true) (hf : Region.free md ops listed i = true) (hr : (Region.ready md ops listed).contains i = true) (hn : needOk md ops need i = true)
    (hQ : ∀ c a w, Q (.panic c) (a.put oi.dst v) w → Q (.panic c) a w) (hy : YieldsIf P ops S oi v a) (hS : S w)
    (h : wpAnyN P md ops Q S need fuel (listed.setIfInBounds i true) (a.put oi.dst v) w) : wpAnyN P md ops Q S need (fuel + 1) listed a w :=
  wpAnyN_first (at_of_drop hi) (Region.noSelect_spec hs) hQ hn fuel listed a w (Region.free_spec (at_of_drop hi) hf) (by simpa using hr) hy hS h
/-- The same, all that is decided in one. -/
theorem wpAnyN_tk {i : Nat} {oi : Oper} {v : Value} {fuel : Nat} {listed : Array Bool} {a : Act} {w : World} (hi : (ops.toList.drop i).head? = some oi)
    (hc : (Region.noSelect ops && Region.free md ops listed i && (Region.ready md ops listed).contains i && needOk md ops need i) = true)
    (hQ : ∀ c a w, Q (.panic c) (a.put oi.dst v) w → Q (.panic c) a w) (hy : YieldsIf P ops S oi v a) (hS : S w)
    (h : wpAnyN P md ops Q S need fuel (listed.setIfInBounds i true) (a.put oi.dst v) w) : wpAnyN P md ops Q S need (fuel + 1) listed a w := by
  simp only [Bool.and_eq_true] at hc
  exact wpAnyN_take hi hc.1.1.1 hc.1.1.2 hc.1.2 hc.2 hQ hy hS h

/-- One operation alone may come up: it is walked as the only one of a plain region. -/
theorem wpAnyN_one {i : Nat} {oi : Oper} {fuel : Nat} {listed : Array Bool} {a : Act} {w : World} (hi : (ops.toList.drop i).head? = some oi) (hr : Region.ready md ops listed = [i])
    (h : wpList P ops (Exit.then (fun a' w' => (need i = true → S w') ∧ wpAnyN P md ops Q S need fuel (listed.setIfInBounds i true) a' w') Q) [oi] a w) : wpAnyN P md ops Q S need (fuel + 1) listed a w := by
  replace hi := at_of_drop hi
  refine ⟨fun h0 => (by rw [hr] at h0; cases h0), fun j hj => ?_⟩
  rw [hr] at hj
  simp only [List.mem_singleton] at hj
  subst hj
  unfold wpOp
  simp only [hi]
  unfold wpList at h
  split
  · rename_i hw
    rw [if_pos hw] at h
    rcases h with h | ⟨ha, a', w', hQ⟩
    · left
      have hpost : ∀ (e : Exit) (a : Act) (w : World), e ≠ .normal → Exit.then (fun a' w' => (need j = true → S w') ∧ wpAnyN P md ops Q S need fuel (listed.setIfInBounds j true) a' w') Q e a w → Q e a w := by
        intro e a w hne h; cases e <;> first | exact absurd rfl hne | exact h
      unfold Oper.wp at *
      generalize (execOp a.eval oi).run P w = r at *
      cases r with
      | ok n w' =>
        cases n <;> simp only [Oper.upon] at h ⊢
        case value u => exact h
        case skip => exact h
        case defer d => exact h
        case enter f args =>
          refine Calls.mono h fun e w'' he => ?_
          cases e with
          | returned u => exact he
          | panicked c => exact he
          | outgrown => obtain ⟨a1, w1, h1⟩ := he; exact ⟨a1, w1, h1⟩
        case row row args => exact Rows.mono h fun u w'' he => he
      | halt x w' =>
        cases x <;> simp only [Oper.upon] at h ⊢
        case panic u => exact h
    · exact .inr ⟨ha, a', w', hQ⟩
  · rename_i hw
    rw [if_neg hw] at h
    exact h

theorem wpAnyN_done {listed : Array Bool} {a : Act} {w : World} (hr : Region.ready md ops listed = []) (h : Q .normal a w) : ∀ fuel, wpAnyN P md ops Q S need fuel listed a w
  | 0 => ⟨hr, h⟩
  | _ + 1 => ⟨fun _ => h, by rw [hr]; simp⟩

/-- The beginning. -/
theorem wp_region_need {id : Nat} {a : Act} {w : World} (S : World → Prop) (need : Nat → Bool) (hm : P.follows .mixedOrders = true) (hS : S w.drew)
    (h : S w.drew → wpAnyN P .any ops Q S need ops.size (Array.replicate ops.size false) a w.drew) : (Code.region id ops true).wp P Q a w :=
  wp_region_any hm (wpAny_of_need _ _ _ _ (h hS))

/-! ### One operation, its run told outright (so that no 'simp' opens it) -/
theorem yields_run {op : Oper} {v : Value} {a : Act} (hg : op.guard = none) (h : ∀ w, S w → (execOp a.eval op).run P w = .ok (.value v) w) : YieldsIf P ops S op v a :=
  .inl ⟨by simp [Region.wanted, hg], h⟩
theorem wpList_run {rest : List Oper} {op : Oper} {a : Act} {w w' : World} {v : Value} (hg : op.guard = none) (hr : (execOp a.eval op).run P w = .ok (.value v) w')
    (h : wpList P ops Q rest (a.put op.dst v) w') : wpList P ops Q (op :: rest) a w :=
  wpList_plain hg fun _ hK => by unfold Oper.wp; rw [hr]; exact hK _ _ h
end
section
variable {P : Program} {a : Act} {op : Oper} {w w' : World}
theorem exec_build (t : TypeId) (parts : Array (Nat × Operand)) (ho : op.op = .build t parts) (vs : Array (Nat × Value)) (hv : (parts.toList.map fun x => (x.1, a.eval x.2)) = vs.toList) {v : Value}
    (h : (Instr.build t vs).run P w = .ok v w') : (execOp a.eval op).run P w = .ok (.value v) w' := by
  have hv' : (parts.map fun x => (x.1, a.eval x.2)) = vs := by apply Array.toList_inj.1; rw [← hv]; simp
  subst hv'
  unfold execOp
  simp only [ho, Sem.run_bind, h, Result.andThen_ok, Sem.run_pure]
theorem exec_buildSlice (t n : Nat) (parts : Array (Nat × Operand)) (ho : op.op = .buildSlice t n parts) (vs : Array (Nat × Value)) (hv : (parts.toList.map fun x => (x.1, a.eval x.2)) = vs.toList) {v : Value}
    (h : (Instr.buildSlice t n vs).run P w = .ok v w') : (execOp a.eval op).run P w = .ok (.value v) w' := by
  have hv' : (parts.map fun x => (x.1, a.eval x.2)) = vs := by apply Array.toList_inj.1; rw [← hv]; simp
  subst hv'
  unfold execOp
  simp only [ho, Sem.run_bind, h, Result.andThen_ok, Sem.run_pure]
theorem exec_load (t : TypeId) (x : Operand) (ho : op.op = .load t x) (b o : Nat) (hx : a.eval x = .pointer (some ⟨b, o, none⟩)) {v : Value} (h : (loadVar t ⟨b, o, none⟩).run P w = .ok v w') : (execOp a.eval op).run P w = .ok (.value v) w' := by
  unfold execOp
  simp only [ho, hx, Instr.loadAt, Instr.sureAddr, Sem.run_bind, h, Result.andThen_ok, Sem.run_pure]
theorem exec_alloc (t : TypeId) (ho : op.op = .alloc t) {v : Value} (h : (Instr.alloc t true (.tuple #[])).run P w = .ok v w') : (execOp a.eval op).run P w = .ok (.value v) w' := by
  unfold execOp
  simp only [ho, Sem.run_bind, h, Result.andThen_ok, Sem.run_pure]
theorem exec_copy (d s : Operand) (dT sT : TypeId) (ho : op.op = .call { callee := .builtin .copy, args := #[d, s], argTypes := #[dT, sT] }) {v : Value}
    (h : (Builtin.copy_ #[dT, sT] op.type #[a.eval d, a.eval s]).run P w = .ok v w') : (execOp a.eval op).run P w = .ok (.value v) w' := by
  unfold execOp
  simp only [ho, resolve, invoke, builtin, Sem.run_bind, Sem.run_pure, Result.andThen_ok, List.map_toArray, List.map_cons, List.map_nil, h]
theorem exec_append (d s : Operand) (dT sT : TypeId) (ho : op.op = .call { callee := .builtin .append, args := #[d, s], argTypes := #[dT, sT] }) {v : Value}
    (h : (Builtin.append_ #[dT, sT] op.type #[a.eval d, a.eval s]).run P w = .ok v w') : (execOp a.eval op).run P w = .ok (.value v) w' := by
  unfold execOp
  simp only [ho, resolve, invoke, builtin, Sem.run_bind, Sem.run_pure, Result.andThen_ok, List.map_toArray, List.map_cons, List.map_nil, h]
end

/-! ### The same, an operation written out: it fits with_reducible or not at all -/
section
variable {P : Program} {ops : Array Oper} {Q : Exit → Act → World → Prop} {rest : List Oper} {a : Act} {w w' : World} {d : Option Tmp} {ty : TypeId} {ps : String} {af : Array Edge} {v : Value}
theorem lit_append {x y : Operand} {t u : TypeId} (hr : (Builtin.append_ #[t, u] ty #[a.eval x, a.eval y]).run P w = .ok v w') (h : wpList P ops Q rest (a.put d v) w') :
    wpList P ops Q ({ dst := d, op := .call { callee := .builtin .append, args := #[x, y], argTypes := #[t, u] }, type := ty, pos := ps, after := af, guard := none } :: rest) a w :=
  wpList_run rfl (by unfold execOp; simp only [resolve, invoke, builtin, Sem.run_bind, Sem.run_pure, Result.andThen_ok, List.map_toArray, List.map_cons, List.map_nil, hr]) h
theorem lit_load {x : Operand} {t : TypeId} (hr : (Instr.loadAt t (a.eval x)).run P w = .ok v w') (h : wpList P ops Q rest (a.put d v) w') :
    wpList P ops Q ({ dst := d, op := .load t x, type := ty, pos := ps, after := af, guard := none } :: rest) a w :=
  wpList_run rfl (by unfold execOp; simp only [Sem.run_bind, Sem.run_pure, Result.andThen_ok, hr]) h
theorem lit_alloc {t : TypeId} (hr : (Instr.alloc t true (.tuple #[])).run P w = .ok v w') (h : wpList P ops Q rest (a.put d v) w') :
    wpList P ops Q ({ dst := d, op := .alloc t, type := ty, pos := ps, after := af, guard := none } :: rest) a w :=
  wpList_run rfl (by unfold execOp; simp only [Sem.run_bind, Sem.run_pure, Result.andThen_ok, hr]) h
theorem lit_makeSlice {x y : Operand} {t : TypeId} (hr : (Instr.makeSlice t (a.eval x) (a.eval y)).run P w = .ok v w') (h : wpList P ops Q rest (a.put d v) w') :
    wpList P ops Q ({ dst := d, op := .makeSlice t x y, type := ty, pos := ps, after := af, guard := none } :: rest) a w :=
  wpList_run rfl (by unfold execOp; simp only [Sem.run_bind, Sem.run_pure, Result.andThen_ok, hr]) h
theorem lit_convert {x : Operand} {t u : TypeId} (hr : (convert t u (a.eval x)).run P w = .ok v w') (h : wpList P ops Q rest (a.put d v) w') :
    wpList P ops Q ({ dst := d, op := .convert t u x, type := ty, pos := ps, after := af, guard := none } :: rest) a w :=
  wpList_run rfl (by unfold execOp; simp only [Sem.run_bind, Sem.run_pure, Result.andThen_ok, hr]) h
theorem lit_slice {x : Operand} {t : TypeId} {lo hi mx : Option Operand} (hr : (Instr.sliceAt t (a.eval x) (lo.map a.eval) (hi.map a.eval) (mx.map a.eval)).run P w = .ok v w') (h : wpList P ops Q rest (a.put d v) w') :
    wpList P ops Q ({ dst := d, op := .slice t x lo hi mx, type := ty, pos := ps, after := af, guard := none } :: rest) a w :=
  wpList_run rfl (by unfold execOp; simp only [Sem.run_bind, Sem.run_pure, Result.andThen_ok, hr]) h
theorem lit_store {x y : Operand} {t : TypeId} (hr : (Instr.storeAt t (a.eval x) (a.eval y)).run P w = .ok () w') (h : wpList P ops Q rest (a.put d undef) w') :
    wpList P ops Q ({ dst := d, op := .store t x y, type := ty, pos := ps, after := af, guard := none } :: rest) a w :=
  wpList_plain rfl fun _ hK => by
    unfold Oper.wp execOp
    simp only [Sem.run_bind, hr, Result.andThen_ok, Sem.run_pure]
    exact hK _ _ h
theorem lit_buildSlice {parts : Array (Nat × Operand)} {t n : Nat} (vs : Array (Nat × Value)) (hv : (parts.toList.map fun x => (x.1, a.eval x.2)) = vs.toList) (hr : (Instr.buildSlice t n vs).run P w = .ok v w') (h : wpList P ops Q rest (a.put d v) w') :
    wpList P ops Q ({ dst := d, op := .buildSlice t n parts, type := ty, pos := ps, after := af, guard := none } :: rest) a w :=
  wpList_run rfl (exec_buildSlice t n parts rfl vs hv hr) h
end
end Go.Proofs.YtfgggkheadfiaaaR
/- Contracts of the disk: New, Write. -/
namespace Go.Proofs.YtfgggkheadfiaaaR
open Go Go.RowKit
attribute [local go_sem ↓] Go.wp_at_zero Go.wp_at_succ

/-- The zeros of a page, and of an entry of the row. -/
def zero512 : List Value := List.replicate 512 (.int .u8 0)
def zero513 : List Value := .int .i64 0 :: zero512
theorem length_zero512 : zero512.length = 512 := List.length_replicate ..
theorem length_zero513 : zero513.length = 513 := by rw [zero513, List.length_cons, length_zero512]
theorem inf127 : (Try.prog.info? 127).map (fun i => (i.zero.map (fun z => z.cells.toList), i.size, i.bytes)) = some (some zero512, 512, 512) := by kernel_rfl
theorem inf129 : (Try.prog.info? 129).map (fun i => (i.zero.map (fun z => z.cells.toList), i.size, i.bytes)) = some (some zero513, 513, 520) := by kernel_rfl

theorem zero512_bvs : zero512 = bvs DiskM.blank := by
  unfold zero512 bvs DiskM.blank
  rw [List.map_replicate]; rfl
theorem blank_cells (n : Nat) : (List.replicate n zero512).flatten = bvs (List.replicate n DiskM.blank).flatten := by
  rw [zero512_bvs]
  generalize DiskM.blank = b
  induction n with
  | zero => rfl
  | succ n ih => rw [List.replicate_succ, List.replicate_succ, List.flatten_cons, List.flatten_cons, bvs_append, ih]
theorem length_blank : DiskM.blank.length = 512 := List.length_replicate ..


theorem new_at (w : World) (o : Own) (D n : Nat) (h1 : 1 ≤ n) (h2 : n ≤ 4096) :
    DiskAt ((w.alloc (.cells (List.replicate n zero512).flatten.toArray 127)).alloc (.cells #[.slice (some ⟨w.heap.size, 0, none⟩) n n, .slice none 0 0, .int .i64 (-1), .bool false] 123))
      (tagAt (tagAt o w.heap.size (D, 1)) (w.heap.size + 1) (D, 0)) D (w.heap.size + 1) (DiskM.new n) := by
  refine ⟨w.heap.size, .slice none 0 0, ?_, ?_, ?_, by simp, ?_, ?_, ?_⟩
  · rw [heap_alloc2_new]; simp [DiskM.new]
  · rw [heap_alloc2_old, blank_cells]; rfl
  · exact World.ownsRow_nil _ _ _ _
  · rw [tagAt_other _ _ (by omega)]; simp
  · intro k hk; simp [Value.ownBlock] at hk
  · refine ⟨by simpa [DiskM.new] using h1, by simpa [DiskM.new] using h2, ?_, by simp [DiskM.new], by simp [DiskM.new], by simp [DiskM.new]⟩
    intro p hp
    simp only [DiskM.new] at hp
    rw [List.eq_of_mem_replicate hp]; exact length_blank

set_option maxHeartbeats 400000 in
set_option maxRecDepth 100000 in
theorem new_ok (n : Nat) (w : World) (o : Own) (D : Nat) (h1 : 1 ≤ n) (h2 : n ≤ 4096) :
    Calls Try.prog 20 #[.int .i64 (n : Int)] w (Ret Nobody w o fun v w' o' => ∃ p, w.heap.size ≤ p ∧ v = .tuple #[.pointer (some ⟨p, 0, none⟩), .int .i64 0] ∧ DiskAt w' o' D p (DiskM.new n)) := by
  have hmk := run_make_zero (P := Try.prog) w 120 127 _ 512 512 Try.underlying120 inf127 length_zero512 n (by omega) (by omega) .i64 .i64
  have hs : Step Nobody w o _ _ := ((Step.refl Nobody w o).alloc (.cells (List.replicate n zero512).flatten.toArray 127) (D, 1)).alloc (.cells #[.slice (some ⟨w.heap.size, 0, none⟩) n n, .slice none 0 0, .int .i64 (-1), .bool false] 123) (D, 0)
  have hd := new_at w o D n h1 h2
  generalize (List.replicate n zero512).flatten = cs at *
  go_enter Try.func20, Try.ntmps20
  go_wp2
  go_ret2
  exact ⟨_, tagAt (tagAt o w.heap.size (D, 1)) (w.heap.size + 1) (D, 0), rfl, by simpa using hs, w.heap.size + 1, by omega, rfl, hd⟩

theorem z129 : ((Try.prog.info? 129).bind (·.zero)).map (fun z => z.cells.toList) = some zero513 := by kernel_rfl
theorem s3 : (Try.prog.info? 3).map (·.size) = some 1 := by kernel_rfl
theorem s127 : (Try.prog.info? 127).map (·.size) = some 512 := by kernel_rfl
theorem zs129 : (Try.prog.info? 129).map (fun i => (i.zero.map (fun z => z.cells.toList), i.size)) = some (some zero513, 513) := by kernel_rfl
theorem build129 (w : World) (n : Int) (l : List UInt8) (hl : l.length = 512) :
    (Instr.build 129 #[(0, .int .i64 n), (1, .agg (bvs l).toArray)]).run Try.prog w = .ok (.agg (Value.int .i64 n :: bvs l).toArray) w := by
  have h1 : (Try.prog.info? 127).map (·.size) = some (bvs l).length := by rw [length_bvs, hl]; exact s127
  have h2 : zero513.length = [Value.int .i64 n].length + (bvs l).length := by rw [length_bvs, hl, length_zero513]; rfl
  have := run_build_two w 129 _ _ zero513 (.int .i64 n) (.agg (bvs l).toArray) [.int .i64 n] (bvs l) Try.underlying129 z129 rfl rfl s3 h1 h2 rfl rfl
  rw [List.singleton_append] at this
  exact this
theorem buildSlice121 (w : World) (n : Int) (l : List UInt8) (hl : l.length = 512) :
    (Instr.buildSlice 121 1 #[(0, .agg (Value.int .i64 n :: bvs l).toArray)]).run Try.prog w = .ok (.slice (some ⟨w.heap.size, 0, none⟩) 1 1) (w.alloc (.cells (Value.int .i64 n :: bvs l).toArray 129)) := by
  have hc : (Value.int .i64 n :: bvs l).length = 513 := by rw [List.length_cons, length_bvs, hl]
  have hz : (Try.prog.info? 129).map (fun i => (i.zero.map (fun z => z.cells.toList), i.size)) = some (some zero513, (Value.int .i64 n :: bvs l).length) := by rw [hc]; exact zs129
  have hz2 : zero513.length = (Value.int .i64 n :: bvs l).length := by rw [hc, length_zero513]
  exact run_buildSlice_one w 121 129 zero513 (.agg (Value.int .i64 n :: bvs l).toArray) (Value.int .i64 n :: bvs l) Try.underlying121 hz hz2 (by omega) (by omega) rfl
theorem toArr127 (w : World) (a : Addr) (n c : Nat) (h : n = 512) : (Instr.arrayAt 127 (.slice (some a) n c)).run Try.prog w = .ok (.pointer (some a)) w := by
  subst h
  simp [Instr.arrayAt, run_underlying Try.underlying127]

/-- The last write of the row has come: what of the disk. -/
theorem DiskAt.pushed {w' : World} {o' : Own} {D p : Nat} {d : DiskM} {bl g cap : Nat} {rv : Value} {at' : Nat} {l : List UInt8} (hwf : d.wf) (ha : at' < d.pages.length) (hl : l.length = 512)
    (hp : w'.heap[p]? = some (.cells #[.slice (some ⟨bl, 0, none⟩) d.pages.length d.pages.length, rv, .int .i64 d.left, .bool d.dead] 123 (0, 0)))
    (hbl : w'.heap[bl]? = some (.cells (bvs d.pages.flatten).toArray 127 (0, 0)))
    (hown : w'.ownsRow 0 129 513 (.slice (some ⟨g, 0, none⟩) (d.row.length + 1) cap) (d.row.length + 1) (rowCells d.row ++ (.int .i64 (at' : Int) :: bvs l)))
    (op : o' p = (D, 0)) (ol : o' bl = (D, 1)) (og : o' g = (D, 2)) :
    DiskAt (w'.setCell ⟨p, 1, none⟩ (.slice (some ⟨g, 0, none⟩) (d.row.length + 1) cap)) o' D p { d with row := d.row ++ [(at', l)] } := by
  refine ⟨bl, .slice (some ⟨g, 0, none⟩) (d.row.length + 1) cap, heap_setCell_at _ hp, ?_, ?_, op, ol, ?_, ?_⟩
  · rw [Below.heap_setCell _ _ _ _ (by rintro rfl; rw [op] at ol; simp at ol)]; exact hbl
  · have : (d.row ++ [(at', l)]).length = d.row.length + 1 := by simp
    rw [this, rowCells_snoc]
    refine ownsRow_same hown fun k hk => Below.heap_setCell _ _ _ _ ?_
    simp only [Value.ownBlock, Option.some.injEq] at hk
    subst hk
    rintro rfl; rw [op] at og; simp at og
  · intro k hk
    simp only [Value.ownBlock, Option.some.injEq] at hk
    subst hk; exact og
  · obtain ⟨h1, h2, h3, h4, h5, h6⟩ := hwf
    refine ⟨h1, h2, h3, ?_, h5, h6⟩
    intro x hx
    rcases List.mem_append.1 hx with hx | hx
    · exact h4 x hx
    · simp only [List.mem_singleton] at hx; subst hx; exact ⟨ha, hl⟩


/-- 'e' is what the test of a call's arguments comes to. -/
theorem asked_is {w : World} {o : Own} {D p : Nat} {d : DiskM} (h : DiskAt w o D p d) (at' n e : Int) (he : Hid (d.asked at' n = e)) :
    Calls Try.prog 68 #[.pointer (some ⟨p, 0, none⟩), .int .i64 at', .int .i64 n] w fun r w' => r = .returned (.int .i64 e) ∧ w = w' := by
  rw [← he.out]; exact asked_any h at' n
theorem counted_is {w : World} {o : Own} {D p : Nat} {d d1 : DiskM} {e1 : Int} (h : DiskAt w o D p d) (n : Int) (he : Hid (d.counted n = (d1, e1))) :
    Calls Try.prog 67 #[.pointer (some ⟨p, 0, none⟩), .int .i64 n] w (Ret (Only D) w o fun v w' o' => v = .int .i64 e1 ∧ DiskAt w' o' D p d1) := by
  have := counted_any h n
  rw [he.out] at this; exact this

set_option maxRecDepth 100000 in
set_option maxHeartbeats 800000 in
theorem write_no {w : World} {o : Own} {D p : Nat} {d : DiskM} (h : DiskAt w o D p d) (at' : Int) (v : Value) (l : List UInt8) (hb : Bytes w o v l) (hc : (d.counted (d.asked at' l.length)).2 ≠ 0) :
    Calls Try.prog 22 #[.pointer (some ⟨p, 0, none⟩), .int .i64 at', v] w (Ret (Only D) w o fun v w' o' => v = .int .i64 (d.write at' l).2 ∧ DiskAt w' o' D p (d.write at' l).1) := by
  have hE : d.write at' l = d.counted (d.asked at' l.length) := by simp [DiskM.write, hc]
  rw [hE]
  obtain ⟨e, he⟩ : ∃ e, Hid (d.asked at' l.length = e) := ⟨_, rfl⟩
  rw [he.out] at hc ⊢
  obtain ⟨d1, e1, hd⟩ : ∃ d1 e1, Hid (d.counted e = (d1, e1)) := ⟨_, _, rfl⟩
  rw [hd.out] at hc ⊢
  have hc' : (e1 != 0) = true := by simpa using hc
  clear hc hE
  rcases hb.cases with ⟨⟨sa, sc, rfl⟩, rfl⟩ | ⟨b, off, cap, rfl, hl, hm, ho, hbs, hr⟩
  all_goals clear hb
  all_goals
    go_enter Try.func22, Try.ntmps22
    go_wp2_with (first | (go_at_call 68; refine (asked_is h _ _ _ he).mono ?_; rintro e w' ⟨rfl, rfl⟩) | (go_at_call 67; refine (counted_is h _ hd).mono ?_; rintro e w' ⟨v1, o1, rfl, hs1, rfl, hd1⟩))
    go_ret
    exact ⟨_, o1, rfl, hs1, rfl, hd1⟩

set_option maxRecDepth 100000 in
set_option maxHeartbeats 1600000 in
theorem write_yes {w : World} {o : Own} {D p : Nat} {d : DiskM} (h : DiskAt w o D p d) (hD : D ≠ 0) (at' : Int) (v : Value) (l : List UInt8) (hb : Bytes w o v l) (hrow : d.row.length ≤ 1000000) (hc : (d.counted (d.asked at' l.length)).2 = 0) :
    Calls Try.prog 22 #[.pointer (some ⟨p, 0, none⟩), .int .i64 at', v] w (Ret (Only D) w o fun v w' o' => v = .int .i64 (d.write at' l).2 ∧ DiskAt w' o' D p (d.write at' l).1) := by
  have hE : d.write at' l = ({ (d.counted (d.asked at' l.length)).1 with row := (d.counted (d.asked at' l.length)).1.row ++ [(at'.toNat, l)] }, 0) := by simp [DiskM.write, hc]
  rw [hE]
  have ha : d.asked at' l.length = 0 := by
    unfold DiskM.counted at hc
    split at hc
    · exact hc
    · rename_i hx; simp only [not_or, ne_eq, Decidable.not_not] at hx; exact hx.1
  have hal : 0 ≤ at' ∧ at' < d.pages.length ∧ l.length = 512 := by
    unfold DiskM.asked at ha
    split at ha
    · cases ha
    · split at ha
      · cases ha
      · rename_i hx; omega
  obtain ⟨a0, a1, hl512⟩ := hal
  obtain ⟨hpg, hrw⟩ := DiskM.counted_same d (d.asked at' l.length)
  obtain ⟨e, he⟩ : ∃ e, Hid (d.asked at' l.length = e) := ⟨_, rfl⟩
  rw [he.out] at hc hpg hrw ⊢
  obtain ⟨d1, e1, hd⟩ : ∃ d1 e1, Hid (d.counted e = (d1, e1)) := ⟨_, _, rfl⟩
  rw [hd.out] at hc hpg hrw ⊢
  simp only at hc hpg hrw ⊢
  subst hc
  clear hE ha
  rcases hb.cases with ⟨⟨sa, sc, rfl⟩, rfl⟩ | ⟨b, off, cap, rfl, hl, hm, ho, hbs, hr⟩
  · simp at hl512
  obtain ⟨n, rfl⟩ := Int.eq_ofNat_of_zero_le a0
  have ha1 : n < d1.pages.length := by rw [hpg]; omega
  have hrow1 : d1.row.length ≤ 1000000 := by rw [hrw]; exact hrow
  have HL := hidden hl512
  clear hl512 hpg hrw a1 hrow
  have hbd := fun w n => build129 w n l HL.out
  have hbs2 := fun w n => buildSlice121 w n l HL.out
  have hta := fun w => toArr127 w ⟨b, off, none⟩ l.length cap HL.out
  go_enter Try.func22, Try.ntmps22
  go_wp2_with (first | (go_at_call 68; refine (asked_is h _ _ _ he).mono ?_; rintro e w' ⟨rfl, rfl⟩) | (go_at_call 67; refine (counted_is h _ hd).mono ?_; rintro e w1 ⟨v1, o1, rfl, hs1, rfl, hd1⟩))
  have hwf1 := hd1.wf
  obtain ⟨bl, rv, ⟨c0, c1, c2, c3⟩, ⟨f1, f2, f3⟩, hbl, hown, op, ol, orr⟩ := hd1.open
  have hr1 : w1.rangeAt b off (bvs l) := range_same hr (hs1.block b hbs (by rw [ho]; exact fun h => hD h.symm))
  refine wp_region_need (fun w' => w'.cell? ⟨p, 1, none⟩ = some rv ∧ w'.rangeAt b off (bvs l)) (fun i => decide (i < 12)) (by kernel_rfl) ⟨c1, hr1⟩ (fun hHeld => ?_)
  refine wpAnyN_tk (i := 0) (v := ?_) rfl (by kernel_rfl) (fun _ _ _ h => h) (Or.inl ⟨by rfl, ?_⟩) (by assumption) ?_
  rotate_left
  · intro w hSw; ((try dsimp only at hSw); go_simp; (try with_reducible rfl))
  simp only [Act.put, List.setIfInBounds_toArray, List.set_cons_zero, List.set_cons_succ]
  refine wpAnyN_tk (i := 1) (v := ?_) rfl (by kernel_rfl) (fun _ _ _ h => h) (Or.inl ⟨by rfl, ?_⟩) (by assumption) ?_
  rotate_left
  · intro w hSw; ((try dsimp only at hSw); go_simp; (try with_reducible rfl))
  simp only [Act.put, List.setIfInBounds_toArray, List.set_cons_zero, List.set_cons_succ]
  refine wpAnyN_tk (i := 2) (v := ?_) rfl (by kernel_rfl) (fun _ _ _ h => h) (Or.inl ⟨by rfl, ?_⟩) (by assumption) ?_
  rotate_left
  · intro w hSw; ((try dsimp only at hSw); go_simp; (try with_reducible rfl))
  simp only [Act.put, List.setIfInBounds_toArray, List.set_cons_zero, List.set_cons_succ]
  refine wpAnyN_tk (i := 3) (v := ?_) rfl (by kernel_rfl) (fun _ _ _ h => h) (Or.inl ⟨by rfl, ?_⟩) (by assumption) ?_
  rotate_left
  · intro w hSw; ((try dsimp only at hSw); go_simp; (try with_reducible rfl))
  simp only [Act.put, List.setIfInBounds_toArray, List.set_cons_zero, List.set_cons_succ]
  refine wpAnyN_tk (i := 4) (v := ?_) rfl (by kernel_rfl) (fun _ _ _ h => h) (Or.inl ⟨by rfl, ?_⟩) (by assumption) ?_
  rotate_left
  · intro w hSw; ((try dsimp only at hSw); go_simp; (try with_reducible rfl))
  simp only [Act.put, List.setIfInBounds_toArray, List.set_cons_zero, List.set_cons_succ]
  refine wpAnyN_tk (i := 5) (v := ?_) rfl (by kernel_rfl) (fun _ _ _ h => h) (Or.inl ⟨by rfl, ?_⟩) (by assumption) ?_
  rotate_left
  · intro w hSw; ((try dsimp only at hSw); go_simp; (try with_reducible rfl))
  simp only [Act.put, List.setIfInBounds_toArray, List.set_cons_zero, List.set_cons_succ]
  refine wpAnyN_tk (i := 6) (v := ?_) rfl (by kernel_rfl) (fun _ _ _ h => h) (Or.inl ⟨by rfl, ?_⟩) (by assumption) ?_
  rotate_left
  · intro w hSw; ((try dsimp only at hSw); go_simp; (try with_reducible rfl))
  simp only [Act.put, List.setIfInBounds_toArray, List.set_cons_zero, List.set_cons_succ]
  refine wpAnyN_tk (i := 7) (v := ?_) rfl (by kernel_rfl) (fun _ _ _ h => h) (Or.inl ⟨by rfl, ?_⟩) (by assumption) ?_
  rotate_left
  · intro w hSw; ((try dsimp only at hSw); go_simp; (try with_reducible rfl))
  simp only [Act.put, List.setIfInBounds_toArray, List.set_cons_zero, List.set_cons_succ]
  have hi127 : (Try.prog.info? 127).map (·.size) = some (bvs l).length := by rw [length_bvs, HL.out]; exact s127
  refine wpAnyN_tk (i := 8) (v := _) rfl (by kernel_rfl) (fun _ _ _ h => h) (yieldsIf_load_mid (by rfl) 127 (.tmp 25) rfl b off rfl (bvs l) _ (fun w h => h.2) Try.underlying127 rfl hi127) (by assumption) ?_
  clear hi127
  simp only [Act.put, List.setIfInBounds_toArray, List.set_cons_zero, List.set_cons_succ]
  refine wpAnyN_tk (i := 9) (v := _) rfl (by kernel_rfl) (fun _ _ _ h => h) (yields_run rfl fun w _ => exec_build 129 #[(0, .tmp 23), (1, .tmp 26)] rfl #[(0, .int .i64 n), (1, .agg (bvs l).toArray)] rfl (hbd w n)) (by assumption) ?_
  simp only [Act.put, List.setIfInBounds_toArray, List.set_cons_zero, List.set_cons_succ]
  refine wpAnyN_one (i := 10) rfl (by kernel_rfl) ?_
  refine wpList_run rfl (exec_buildSlice 121 1 #[(0, .tmp 27)] rfl #[(0, .agg (Value.int .i64 n :: bvs l).toArray)] rfl (hbs2 _ n)) ?_
  refine wpList_nil ?_
  simp only [Act.put, List.setIfInBounds_toArray, List.set_cons_zero, List.set_cons_succ]
  refine ⟨fun _ => ⟨by rw [World.cell?_alloc_lt _ _ _ (by simpa using hd1.lt)]; exact c1, World.rangeAt_alloc hr1 _⟩, ?_⟩
  have hpl := hd1.lt
  have hW : Step (Only D) w o (w1.drew.alloc (.cells (Value.int .i64 (n : Int) :: bvs l).toArray 129)) o1 := (hs1.drew).alloc' _
  have hnb : (w1.drew.alloc (.cells (Value.int .i64 (n : Int) :: bvs l).toArray 129)).heap[w1.heap.size]? = some (.cells (Value.int .i64 (n : Int) :: bvs l).toArray 129 (0, 0)) := heap_alloc_new w1.drew _
  have hold : ∀ k, k < w1.heap.size → (w1.drew.alloc (.cells (Value.int .i64 (n : Int) :: bvs l).toArray 129)).heap[k]? = w1.heap[k]? := fun k hk => Below.heap_alloc w1.drew _ k hk
  have hownW := ownsRow_same hown (fun k hk => hold k (hown.lt k hk).2)
  generalize hWe : (w1.drew.alloc (.cells (Value.int .i64 (n : Int) :: bvs l).toArray 129)) = W at *
  have hWs : W.heap.size = w1.heap.size + 1 := by rw [← hWe]; simp
  obtain ⟨g, cap', w3, hrun, hown3, hgrow, hat, hlt⟩ := run_append_row (P := Try.prog) W 121 121 129 Try.underlying121 inf129 length_zero513 (by omega) (Nat.zero_le _) rv d1.row.length (rowCells d1.row) hownW w1.heap.size 0 1 1
    (Value.int .i64 (n : Int) :: bvs l) (by rw [List.length_cons, length_bvs, HL.out]) (range_whole hnb) (one_cons rfl (one_bvs l)) (by omega) (by omega) (by omega)
  have hbll := lt_of_block hbl
  have hp3 : w3.heap[p]? = w1.heap[p]? := by
    rw [hgrow.block p (by omega) (by intro hx; have := orr p hx.symm; rw [op] at this; simp at this), hold p hpl]
  have hbl3 : w3.heap[bl]? = some (.cells (bvs d1.pages.flatten).toArray 127 (0, 0)) := by
    rw [hgrow.block bl (by omega) (by intro hx; have := orr bl hx.symm; rw [ol] at this; simp at this), hold bl hbll]; exact hbl
  have hgt : o1 g = (D, 2) ∨ W.heap.size ≤ g := by
    rcases hat with hat | hat
    · exact .inl (orr g hat)
    · exact .inr (by omega)
  have hs3 : Step (Only D) w o w3 (tagAt o1 g (D, 2)) := hW.grown hgrow (fun k hk => .inl (by rw [orr k hk]; rfl)) g (D, 2) hgt
  have hgp : p ≠ g := by
    rintro rfl
    rcases hgt with h1 | h1
    · rw [op] at h1; simp at h1
    · omega
  have hgb : bl ≠ g := by
    rintro rfl
    rcases hgt with h1 | h1
    · rw [ol] at h1; simp at h1
    · omega
  have hc13 : w3.cell? ⟨p, 1, none⟩ = some rv := by rw [World.cell?_of_block (w := w1) (a := ⟨p, 1, none⟩) hp3]; exact c1
  have hf13 : w3.frozen? ⟨p, 1, none⟩ = false := by rw [World.frozen?_of_block (w := w1) (a := ⟨p, 1, none⟩) hp3]; exact f1
  have hr3 : w3.rangeAt b off (bvs l) := range_same hr (hs3.block b hbs (by rw [ho]; exact fun h => hD h.symm))
  refine wpAnyN_one (i := 11) rfl (by kernel_rfl) ?_
  refine wpList_run rfl (exec_append (.tmp 22) (.tmp 28) 121 121 rfl hrun) ?_
  refine wpList_nil ?_
  simp only [Act.put, List.setIfInBounds_toArray, List.set_cons_zero, List.set_cons_succ]
  refine ⟨fun _ => ⟨hc13, hr3⟩, ?_⟩
  clear hrun hWe hold hnb
  refine wpAnyN_one (i := 12) rfl (by kernel_rfl) ?_
  go_wp2_with fail
  refine ⟨fun h => by simp at h, ?_⟩
  refine wpAnyN_one (i := 13) rfl (by kernel_rfl) ?_
  go_wp2_with fail
  refine ⟨fun h => by simp at h, ?_⟩
  refine wpAnyN_one (i := 14) rfl (by kernel_rfl) ?_
  go_wp2_with fail
  refine ⟨fun h => by simp at h, ?_⟩
  refine wpAnyN_done (by kernel_rfl) ?_ _
  go_wp2
  go_ret
  refine ⟨_, tagAt o1 g (D, 2), rfl, hs3.setCell _ (.inl ?_), rfl, ?_⟩
  · show Only D (tagAt o1 g (D, 2) p).1
    rw [tagAt_other _ _ hgp, op]; rfl
  · rw [Int.toNat_natCast]
    obtain ⟨bl', rv', hp', hbl', -⟩ := hd1
    have hp4 : w1.heap[p]? = some (.cells #[.slice (some ⟨bl, 0, none⟩) d1.pages.length d1.pages.length, rv, .int .i64 d1.left, .bool d1.dead] 123 (0, 0)) := by
      have e0 := cell_of_block hp' 0
      have e1 := cell_of_block hp' 1
      rw [c0] at e0
      rw [c1] at e1
      simp only [List.getElem?_cons_zero, List.getElem?_cons_succ, Option.some.injEq] at e0 e1
      rw [hp', ← e0, ← e1]
    exact DiskAt.pushed hwf1 ha1 HL.out (hp3.trans hp4) hbl3 hown3 (by rw [tagAt_other _ _ hgp]; exact op) (by rw [tagAt_other _ _ hgb]; exact ol) (tagAt_same _ _ _)
theorem write_any {w : World} {o : Own} {D p : Nat} {d : DiskM} (h : DiskAt w o D p d) (hD : D ≠ 0) (at' : Int) (v : Value) (l : List UInt8) (hb : Bytes w o v l) (hrow : d.row.length ≤ 1000000) :
    Calls Try.prog 22 #[.pointer (some ⟨p, 0, none⟩), .int .i64 at', v] w (Ret (Only D) w o fun v w' o' => v = .int .i64 (d.write at' l).2 ∧ DiskAt w' o' D p (d.write at' l).1) := by
  by_cases hc : (d.counted (d.asked at' l.length)).2 = 0
  · exact write_yes h hD at' v l hb hrow hc
  · exact write_no h at' v l hb hc
end Go.Proofs.YtfgggkheadfiaaaR
/- Contracts of the disk: Read. -/
namespace Go.Proofs.YtfgggkheadfiaaaR
open Go Go.RowKit
attribute [local go_sem ↓] Go.wp_at_zero Go.wp_at_succ

theorem zc127 : ((Try.prog.info? 127).bind (·.zero)).map (·.cells) = some zero512.toArray := by kernel_rfl
theorem zc129 : ((Try.prog.info? 129).bind (·.zero)).map (·.cells) = some zero513.toArray := by kernel_rfl
theorem s129 : (Try.prog.info? 129).map (·.size) = some 513 := by kernel_rfl

theorem load127 {w : World} {b off : Nat} {l : List UInt8} (hl : l.length = 512) (hr : w.rangeAt b off (bvs l)) : (loadVar 127 ⟨b, off, none⟩).run Try.prog w = .ok (.agg (bvs l).toArray) w :=
  run_loadVar_mid w b off 127 (bvs l) _ hr Try.underlying127 rfl (by rw [length_bvs, hl]; exact s127)
theorem load129 {w : World} {b off : Nat} {n : Int} {l : List UInt8} (hl : l.length = 512) (hr : w.rangeAt b off (Value.int .i64 n :: bvs l)) : (loadVar 129 ⟨b, off, none⟩).run Try.prog w = .ok (.agg (Value.int .i64 n :: bvs l).toArray) w :=
  run_loadVar_mid w b off 129 _ _ hr Try.underlying129 rfl (by rw [List.length_cons, length_bvs, hl]; exact s129)
theorem exec_store {P : Program} {a : Act} {op : Oper} {w : World} (t : TypeId) (x y : Operand) (ho : op.op = .store t x y) (b o : Nat) (cs : List Value) (hx : a.eval x = .pointer (some ⟨b, o, none⟩)) (hy : a.eval y = .agg cs.toArray)
    (ht : w.there b o cs.length) (hi : (P.info? t).map (·.size) = some cs.length) (h1 : ∀ v ∈ cs, v.oneCell' = true) : (execOp a.eval op).run P w = .ok .skip (w.setCells b o cs) := by
  unfold execOp
  simp only [ho, hx, hy, Instr.storeAt, Instr.sureAddr, Sem.run_bind, Sem.run_pure, Result.andThen_ok]
  rw [run_storeVar_mid w b o t cs.toArray (by simpa using ht) (by simpa using hi) (all_oneCell_toArray h1)]
  simp
theorem wpList_skipped {P : Program} {ops : Array Oper} {Q : Exit → Act → World → Prop} {rest : List Oper} {op : Oper} {a : Act} {w w' : World} (hg : op.guard = none) (hr : (execOp a.eval op).run P w = .ok .skip w')
    (h : wpList P ops Q rest (a.put op.dst undef) w') : wpList P ops Q (op :: rest) a w :=
  wpList_plain hg fun _ hK => by unfold Oper.wp; rw [hr]; exact hK _ _ h

/-- What Read hands out: nil, or new memory of its own. -/
def NewPage (w : World) (w' : World) (o' : Own) (v : Value) (l : List UInt8) : Prop :=
  (v = .slice none 0 0 ∧ l = []) ∨ ∃ b, v = .slice (some ⟨b, 0, none⟩) 512 512 ∧ l.length = 512 ∧ w.heap.size ≤ b ∧ w'.heap[b]? = some (.cells (bvs l).toArray 127 (0, 0)) ∧ o' b = (0, 0)


set_option maxRecDepth 100000 in
set_option maxHeartbeats 1600000 in
theorem read_yes {w : World} {o : Own} {D p : Nat} {d : DiskM} (h : DiskAt w o D p d) (at' : Int) (hc : d.asked at' 512 = 0) (hrow : d.row.length ≤ 1000000) :
    Calls Try.prog 25 #[.pointer (some ⟨p, 0, none⟩), .int .i64 at'] w (Ret Nobody w o fun v w' o' => ∃ b, v = .tuple #[.slice (some ⟨b, 0, none⟩) 512 512, .int .i64 0] ∧ w.heap.size ≤ b ∧ w'.heap[b]? = some (.cells (bvs (d.seen at'.toNat)).toArray 127 (0, 0)) ∧ o' b = (0, 0)) := by
  have hal : 0 ≤ at' ∧ at' < d.pages.length := by
    unfold DiskM.asked at hc
    split at hc
    · cases hc
    · split at hc
      · cases hc
      · rename_i hx; omega
  obtain ⟨a0, a1⟩ := hal
  obtain ⟨n, rfl⟩ := Int.eq_ofNat_of_zero_le a0
  have a1' : n < d.pages.length := by omega
  rw [Int.toNat_natCast]
  have hcH := hidden hc
  clear hc
  obtain ⟨hw1, hw2, hw3, hw4, -, -⟩ := h.wf
  obtain ⟨bl, rv, ⟨c0, c1, c2, c3⟩, ⟨f1, f2, f3⟩, hbl, hown, op, ol, orr⟩ := h.open
  have hpg : (d.pages.getD n []).length = 512 := DiskM.getD_wf hw3 a1'
  have hrng : w.rangeAt bl (n * 512) (bvs (d.pages.getD n [])) := by
    have := range_of_block hbl (n * 512) 512
    rwa [bvs_drop, bvs_take, get_pages _ _ a1' hw3] at this
  have hld := load127 hpg hrng
  have HP := hidden hpg
  clear hpg hrng hw3 op ol orr
  have hpl : p < w.heap.size := h.lt
  obtain ⟨ra, rcap, hrv⟩ := row_form hown
  subst hrv
  generalize hpage : d.pages.getD n [] = page at *
  have hpageH := hidden hpage
  clear hpage
  go_enter Try.func25, Try.ntmps25
  go_wp2_with (first
    | (go_at_call 68; refine (asked_is h _ _ _ hcH).mono ?_; rintro e w' ⟨rfl, rfl⟩)
    | (refine wpList_run rfl (exec_load 127 (.tmp 21) rfl bl (n * 512) rfl hld) ?_; simp only [Act.put, List.setIfInBounds_toArray, List.set_cons_zero, List.set_cons_succ])
    | (refine wpList_run rfl (exec_alloc 127 rfl (run_alloc_zero w 127 zero512.toArray zc127)) ?_; simp only [Act.put, List.setIfInBounds_toArray, List.set_cons_zero, List.set_cons_succ])
    | (refine wpList_skipped rfl (exec_store 127 (.tmp 7) (.tmp 22) rfl w.heap.size 0 (bvs page) rfl rfl (there_of_block (heap_alloc_new w _) 0 _ (by rw [length_bvs, HP.out, length_zero512]; omega)) (by rw [length_bvs, HP.out]; exact s127) (one_bvs _)) ?_
       rw [setCells_alloc_whole _ _ _ _ (by rw [length_bvs, HP.out, List.size_toArray, length_zero512])]))
  go_loopw [28] (fun i wr => ∃ k : Nat, k ≤ d.row.length ∧ i = .int .i64 k ∧ wr.heap[w.heap.size]? = some (.cells (bvs (DiskM.seenIn n page (d.row.take k))).toArray 127 (0, 0)) ∧ (DiskM.seenIn n page (d.row.take k)).length = 512 ∧ Below w.heap.size w wr)
    (fun i _ => d.row.length - (intOf i).toNat)
  case atStart => exact ⟨0, Nat.zero_le _, rfl, heap_alloc_new w _, HP.out, (Below.refl _ w).alloc (Nat.le_refl _) _⟩
  case round =>
    obtain ⟨k, hk, rfl, hB, hBl, hbel⟩ := hrel
    have hBz := lt_of_block hB
    have hBlH := hidden hBl
    clear hBl
    by_cases hlt : k < d.row.length
    · obtain ⟨g, hg, cur, hcur, htk⟩ : ∃ g, ra = some ⟨g, 0, none⟩ ∧ ∃ cur : Array Value, w.heap[g]? = some (.cells cur 129 (0, 0)) ∧ cur.toList.take (d.row.length * 513) = rowCells d.row := by
        rcases hown.2 with ⟨_, h0⟩ | ⟨g, cap, cur, hv, _, hgg, _, _, _, htake⟩
        · omega
        · simp only [Value.slice.injEq] at hv
          exact ⟨g, hv.1, cur, hgg, htake⟩
      subst hg
      have hx := hw4 d.row[k] (List.getElem_mem hlt)
      have hgz := lt_of_block hcur
      have hent : wr.rangeAt g (k * 513) (Value.int .i64 (d.row[k].1 : Int) :: bvs d.row[k].2) := by
        have e1 : wr.heap[g]? = some (.cells cur.toList.toArray 129 (0, 0)) := by rw [hbel.block g hgz]; simpa using hcur
        have := range_of_block e1 (k * 513) 513
        have e2 : (cur.toList.drop (k * 513)).take 513 = ((rowCells d.row).drop (k * 513)).take 513 := by
          rw [← htk, List.drop_take, List.take_take]
          congr 1; omega
        rwa [e2, get_rowCells _ _ hlt (fun x hx => (hw4 x hx).2)] at this
      have hld2 := load129 hx.2 hent
      have hX := hidden hx.2
      have hseen : DiskM.seenIn n page (d.row.take (k + 1)) = if d.row[k].1 = n then d.row[k].2 else DiskM.seenIn n page (d.row.take k) := by
        rw [List.take_succ_eq_append_getElem hlt, DiskM.seenIn, List.foldl_append]
        rfl
      have hseenH := hidden hseen
      clear hseen hx hent htk hcur hw4 hown hw1 hw2
      generalize hrow : d.row[k] = x at *
      obtain ⟨xa, xl⟩ := x
      clear hrow
      simp only at hX hld2 hseenH
      have hnew : (wr.alloc (.cells (Value.int .i64 (xa : Int) :: bvs xl).toArray 129)).heap[wr.heap.size]? = some (.cells (Value.int .i64 (xa : Int) :: bvs xl).toArray 129 (0, 0)) := heap_alloc_new wr _
      have hld3 : (loadVar 127 ⟨wr.heap.size, 1, none⟩).run Try.prog (wr.alloc (.cells (Value.int .i64 (xa : Int) :: bvs xl).toArray 129)) = .ok (.agg (bvs xl).toArray) (wr.alloc (.cells (Value.int .i64 (xa : Int) :: bvs xl).toArray 129)) := by
        refine load127 hX.out ?_
        have := range_of_block hnew 1 512
        have e : ((Value.int .i64 (xa : Int) :: bvs xl).drop 1).take 512 = bvs xl := by rw [List.drop_one, List.tail_cons, List.take_of_length_le (by rw [length_bvs, hX.out]; omega)]
        rwa [e] at this
      have hB2 : (wr.alloc (.cells (Value.int .i64 (xa : Int) :: bvs xl).toArray 129)).heap[w.heap.size]? = some (.cells (bvs (DiskM.seenIn n page (d.row.take k))).toArray 127 (0, 0)) := by rw [Below.heap_alloc _ _ _ hBz]; exact hB
      by_cases heq : xa = n
      · have heqb : ((xa : Int) == (n : Int)) = true := by rw [heq]; simp
        have hS1 : DiskM.seenIn n page (d.row.take (k + 1)) = xl := by rw [hseenH.out, if_pos heq]
        have hS1H := hidden hS1
        clear hS1 heq
        go_wp2_with (first
          | (refine wpList_run rfl (exec_load 129 (.tmp 30) rfl g (k * 513) rfl hld2) ?_; simp only [Act.put, List.setIfInBounds_toArray, List.set_cons_zero, List.set_cons_succ])
          | (refine wpList_run rfl (exec_alloc 129 rfl (run_alloc_zero wr 129 zero513.toArray zc129)) ?_; simp only [Act.put, List.setIfInBounds_toArray, List.set_cons_zero, List.set_cons_succ])
          | (refine wpList_skipped rfl (exec_store 129 (.tmp 9) (.tmp 31) rfl wr.heap.size 0 (Value.int .i64 (xa : Int) :: bvs xl) rfl rfl (there_of_block (heap_alloc_new wr _) 0 _ (by rw [List.length_cons, length_bvs, hX.out, length_zero513]; omega)) (by rw [List.length_cons, length_bvs, hX.out]; exact s129) (one_cons rfl (one_bvs _))) ?_
             rw [setCells_alloc_whole _ _ _ _ (by rw [List.length_cons, length_bvs, hX.out, List.size_toArray, length_zero513])])
          | (refine wpList_run rfl (exec_load 127 (.tmp 36) rfl wr.heap.size 1 rfl hld3) ?_; simp only [Act.put, List.setIfInBounds_toArray, List.set_cons_zero, List.set_cons_succ])
          | (refine wpList_skipped rfl (exec_store 127 (.tmp 7) (.tmp 37) rfl w.heap.size 0 (bvs xl) rfl rfl (there_of_block hB2 0 _ (by rw [length_bvs, length_bvs, hX.out, hBlH.out]; omega)) (by rw [length_bvs, hX.out]; exact s127) (one_bvs _)) ?_; simp only [Act.put]))
        go_roundw
        case rel =>
          refine ⟨k + 1, hlt, by go_num, ?_, ?_, ?_⟩
          · rw [hS1H.out]
            have := heap_setCells_same w.heap.size 127 (bvs xl) 0 _ _ hB2 (by rw [length_bvs, length_bvs, hX.out, hBlH.out]; omega)
            rw [this, List.take_zero, List.nil_append, List.drop_eq_nil_of_le (by rw [length_bvs, length_bvs, hX.out, hBlH.out]; omega), List.append_nil]
          · rw [hS1H.out]; exact hX.out
          · have h1 := hbel.alloc hbel.size (.cells (Value.int .i64 (xa : Int) :: bvs xl).toArray 129)
            exact Step.below ((((Step.refl Nobody w o).trans ⟨h1.os, h1.tape, h1.output, h1.size, fun _ _ => rfl, fun k hk _ => h1.block k hk⟩)).setCells w.heap.size 0 (bvs xl) (.inr (Nat.le_refl _)))
        case measure => simp [intOf]; omega
      · have heqb : ((xa : Int) == (n : Int)) = false := by simp; omega
        have hS1 : DiskM.seenIn n page (d.row.take (k + 1)) = DiskM.seenIn n page (d.row.take k) := by rw [hseenH.out, if_neg heq]
        have hS1H := hidden hS1
        clear hS1 heq
        go_wp2_with (first
          | (refine wpList_run rfl (exec_load 129 (.tmp 30) rfl g (k * 513) rfl hld2) ?_; simp only [Act.put, List.setIfInBounds_toArray, List.set_cons_zero, List.set_cons_succ])
          | (refine wpList_run rfl (exec_alloc 129 rfl (run_alloc_zero wr 129 zero513.toArray zc129)) ?_; simp only [Act.put, List.setIfInBounds_toArray, List.set_cons_zero, List.set_cons_succ])
          | (refine wpList_skipped rfl (exec_store 129 (.tmp 9) (.tmp 31) rfl wr.heap.size 0 (Value.int .i64 (xa : Int) :: bvs xl) rfl rfl (there_of_block (heap_alloc_new wr _) 0 _ (by rw [List.length_cons, length_bvs, hX.out, length_zero513]; omega)) (by rw [List.length_cons, length_bvs, hX.out]; exact s129) (one_cons rfl (one_bvs _))) ?_
             rw [setCells_alloc_whole _ _ _ _ (by rw [List.length_cons, length_bvs, hX.out, List.size_toArray, length_zero513])]))
        go_roundw
        case rel => exact ⟨k + 1, hlt, by go_num, by rw [hS1H.out]; exact hB2, by rw [hS1H.out]; exact hBlH.out, hbel.alloc hbel.size _⟩
        case measure => simp [intOf]; omega
    · go_wp2
      go_ret2
      refine ⟨_, tagAt o w.heap.size (0, 0), rfl, ?_, w.heap.size, rfl, Nat.le_refl _, ?_, tagAt_same _ _ _⟩
      · exact ⟨hbel.os, hbel.tape, hbel.output, hbel.size, fun k hk => tagAt_other _ _ (by omega), fun k hk _ => hbel.block k hk⟩
      · have : d.row.take k = d.row := List.take_of_length_le (by omega)
        rw [this] at hB
        rw [hB]; unfold DiskM.seen; rw [hpageH.out]

end Go.Proofs.YtfgggkheadfiaaaR
/- Contracts of the disk: done (the row is done, so many bytes of each write), Sync, Restart. -/
namespace Go.Proofs.YtfgggkheadfiaaaR
open Go Go.RowKit
attribute [local go_sem ↓] Go.wp_at_zero Go.wp_at_succ

theorem s5 : (Try.prog.info? 5).map (·.size) = some 1 := by kernel_rfl

namespace DiskM
theorem donePages_snoc (f : Nat → Nat) (pages : List (List UInt8)) (row : List (Nat × List UInt8)) (x : Nat × List UInt8) : donePages f pages (row ++ [x]) = doneOne f (donePages f pages row) (x, row.length) := by
  simp [donePages, List.zipIdx_append, List.foldl_append]
theorem donePages_wf (f : Nat → Nat) (hf : ∀ i, f i ≤ 512) (pages : List (List UInt8)) (h : ∀ p ∈ pages, p.length = 512) (row : List (Nat × List UInt8)) (hr : ∀ x ∈ row, x.1 < pages.length ∧ x.2.length = 512) :
    (donePages f pages row).length = pages.length ∧ ∀ p ∈ donePages f pages row, p.length = 512 := by
  suffices hs : ∀ (row : List (Nat × List UInt8)) (k : Nat) (q : List (List UInt8)), q.length = pages.length → (∀ p ∈ q, p.length = 512) → (∀ x ∈ row, x.1 < pages.length ∧ x.2.length = 512) →
      ((row.zipIdx k).foldl (doneOne f) q).length = pages.length ∧ ∀ p ∈ (row.zipIdx k).foldl (doneOne f) q, p.length = 512 from hs row 0 pages rfl h hr
  intro row
  induction row with
  | nil => intro k q hq hp _; exact ⟨hq, hp⟩
  | cons x r ih =>
    intro k q hq hp hx
    have h1 := hx x (by simp)
    have h2 := doneOne_wf f hf hp (x, k) (by rw [hq]; exact h1.1) h1.2
    rw [List.zipIdx_cons, List.foldl_cons]
    exact ih (k + 1) _ (h2.1.trans hq) h2.2 (fun y hy => hx y (by simp [hy]))
end DiskM

set_option maxRecDepth 100000 in
set_option maxHeartbeats 3200000 in
theorem done_any {w : World} {o : Own} {D p : Nat} {d : DiskM} (h : DiskAt w o D p d) (hrow : d.row.length ≤ 1000000) (fid : Nat) (caps : Array Value) (f : Nat → Nat) (hf : ∀ i, f i ≤ 512)
    (hcall : ∀ (args : Array Value) (x : World), (callFunc fid args).run Try.prog x = .ok (.enter fid args) x)
    (hsays : ∀ (i : Nat) (x : World), i < d.row.length → (∀ k, k < w.heap.size → (o k).1 ≠ D → x.heap[k]? = w.heap[k]?) → Calls Try.prog fid (#[.int .i64 (i : Int)] ++ caps) x fun e x' => e = .returned (.int .i64 (f i : Int)) ∧ x = x') :
    Calls Try.prog 69 #[.pointer (some ⟨p, 0, none⟩), .func (.func fid) #[] caps] w (Ret (Only D) w o fun v w' o' => v = .tuple #[] ∧ DiskAt w' o' D p (d.done f)) := by
  have hwf := h.wf
  obtain ⟨hw1, hw2, hw3, hw4, hw5, hw6⟩ := h.wf
  have hpl : p < w.heap.size := h.lt
  obtain ⟨bl, rv, hp, hbl, hown, op, ol, orr, -⟩ := h
  have c0 := cell_of_block hp 0
  have c1 := cell_of_block hp 1
  have f1 := free_of_block hp 1
  simp only [List.getElem?_cons_zero, List.getElem?_cons_succ] at c0 c1
  have hbll := lt_of_block hbl
  obtain ⟨ra, rcap, hrv⟩ := row_form hown
  subst hrv
  have hpbl : p ≠ bl := by rintro rfl; rw [op] at ol; simp at ol
  have hPW := DiskM.donePages_wf f hf d.pages hw3
  have hsaysH := hidden hsays
  have hPWH := hidden hPW
  have hw3H := hidden hw3
  have opH := hidden op
  have olH := hidden ol
  clear hsays hPW hw3 op ol
  go_enter Try.func69, Try.ntmps69
  go_wp2_with fail
  go_loopw [11] (fun i wr => ∃ k : Nat, k ≤ d.row.length ∧ i = .int .i64 k ∧ wr.heap[bl]? = some (.cells (bvs (DiskM.donePages f d.pages (d.row.take k)).flatten).toArray 127 (0, 0)) ∧ (∀ j, j < w.heap.size → j ≠ bl → wr.heap[j]? = w.heap[j]?) ∧ Step (Only D) w o wr o)
    (fun i _ => d.row.length - (intOf i).toNat)
  case atStart => exact ⟨0, Nat.zero_le _, rfl, hbl, fun _ _ _ => rfl, Step.refl _ _ _⟩
  case round =>
    obtain ⟨k, hk, rfl, hB, hsame, hstep⟩ := hrel
    have hplr : p < wr.heap.size := Nat.lt_of_lt_of_le hpl hstep.size
    have hpr : wr.heap[p]? = w.heap[p]? := hsame p hpl hpbl
    have c0r : wr.cell? ⟨p, 0, none⟩ = some (.slice (some ⟨bl, 0, none⟩) d.pages.length d.pages.length) := by rw [World.cell?_of_block (w := w) (a := ⟨p, 0, none⟩) hpr]; exact c0
    have f1r : wr.frozen? ⟨p, 1, none⟩ = false := by rw [World.frozen?_of_block (w := w) (a := ⟨p, 1, none⟩) hpr]; exact f1
    have c1r : wr.cell? ⟨p, 1, none⟩ = some (.slice ra d.row.length rcap) := by rw [World.cell?_of_block (w := w) (a := ⟨p, 1, none⟩) hpr]; exact c1
    by_cases hlt : k < d.row.length
    · obtain ⟨g, hg, cur, hcur, htk⟩ : ∃ g, ra = some ⟨g, 0, none⟩ ∧ ∃ cur : Array Value, w.heap[g]? = some (.cells cur 129 (0, 0)) ∧ cur.toList.take (d.row.length * 513) = rowCells d.row := by
        rcases hown.2 with ⟨_, h0⟩ | ⟨g, cap, cur, hv, _, hgg, _, _, _, htake⟩
        · omega
        · simp only [Value.slice.injEq] at hv
          exact ⟨g, hv.1, cur, hgg, htake⟩
      subst hg
      have hx := hw4 d.row[k] (List.getElem_mem hlt)
      have hgz := lt_of_block hcur
      have hgbl : g ≠ bl := by rintro rfl; have := orr g rfl; rw [olH.out] at this; simp at this
      have hent : wr.rangeAt g (k * 513) (Value.int .i64 (d.row[k].1 : Int) :: bvs d.row[k].2) := by
        have e1 : wr.heap[g]? = some (.cells cur.toList.toArray 129 (0, 0)) := by rw [hsame g hgz hgbl]; simpa using hcur
        have := range_of_block e1 (k * 513) 513
        have e2 : (cur.toList.drop (k * 513)).take 513 = ((rowCells d.row).drop (k * 513)).take 513 := by
          rw [← htk, List.drop_take, List.take_take]
          congr 1; omega
        rwa [e2, get_rowCells _ _ hlt (fun x hx => (hw4 x hx).2)] at this
      have hld2 := load129 hx.2 hent
      have hPk := hPWH.out (d.row.take k) (fun x hx => hw4 x (List.mem_of_mem_take hx))
      have hsn : DiskM.donePages f d.pages (d.row.take (k + 1)) = DiskM.doneOne f (DiskM.donePages f d.pages (d.row.take k)) (d.row[k], k) := by
        rw [List.take_succ_eq_append_getElem hlt, DiskM.donePages_snoc, List.length_take, Nat.min_eq_left (by omega)]
      have hsnH := hidden hsn
      have hPkH := hidden hPk
      have hXH := hidden hx
      have hs1 : Step (Only D) w o (wr.alloc (.cells (Value.int .i64 (d.row[k].1 : Int) :: bvs d.row[k].2).toArray 129)) o := hstep.alloc' _
      have hx1 : d.row[k].1 < d.pages.length := hx.1
      clear hsn hx hent htk hcur hPk
      generalize hrowk : d.row[k] = x at *
      obtain ⟨xa, xl⟩ := x
      clear hrowk
      simp only at hXH hld2 hsnH hs1 hx1
      generalize hpk : DiskM.donePages f d.pages (d.row.take k) = pk at *
      have hpkH := hidden hpk
      clear hpk
      have hxlH : Hid (xl.length = 512) := hXH.out.2
      have hxaI : (xa : Int) < (d.pages.length : Int) := by omega
      have hnew : (wr.alloc (.cells (Value.int .i64 (xa : Int) :: bvs xl).toArray 129)).heap[wr.heap.size]? = some (.cells (Value.int .i64 (xa : Int) :: bvs xl).toArray 129 (0, 0)) := heap_alloc_new wr _
      have hblr : bl < wr.heap.size := lt_of_block hB
      have hB2 : (wr.alloc (.cells (Value.int .i64 (xa : Int) :: bvs xl).toArray 129)).heap[bl]? = some (.cells (bvs pk.flatten).toArray 127 (0, 0)) := by rw [Below.heap_alloc _ _ _ hblr]; exact hB
      have hc0x : (wr.alloc (.cells (Value.int .i64 (xa : Int) :: bvs xl).toArray 129)).cell? ⟨p, 0, none⟩ = some (.slice (some ⟨bl, 0, none⟩) d.pages.length d.pages.length) := by rw [World.cell?_alloc_lt _ _ _ hplr]; exact c0r
      have hsz : (wr.alloc (.cells (Value.int .i64 (xa : Int) :: bvs xl).toArray 129)).heap.size = wr.heap.size + 1 := by simp
      go_wp2_with (first
        | (refine wpList_run rfl (exec_load 129 (.tmp 14) rfl g (k * 513) rfl hld2) ?_; simp only [Act.put, List.setIfInBounds_toArray, List.set_cons_zero, List.set_cons_succ])
        | (refine wpList_run rfl (exec_alloc 129 rfl (run_alloc_zero wr 129 zero513.toArray zc129)) ?_; simp only [Act.put, List.setIfInBounds_toArray, List.set_cons_zero, List.set_cons_succ])
        | (refine wpList_skipped rfl (exec_store 129 (.tmp 5) (.tmp 15) rfl wr.heap.size 0 (Value.int .i64 (xa : Int) :: bvs xl) rfl rfl (there_of_block (heap_alloc_new wr _) 0 _ (by rw [List.length_cons, length_bvs, hxlH.out, length_zero513]; omega)) (by rw [List.length_cons, length_bvs, hxlH.out]; exact s129) (one_cons rfl (one_bvs _))) ?_
           rw [setCells_alloc_whole _ _ _ _ (by rw [List.length_cons, length_bvs, hxlH.out, List.size_toArray, length_zero513])]))
      generalize hW : wr.alloc (.cells (Value.int .i64 (xa : Int) :: bvs xl).toArray 129) = W at *
      have hxa0 : W.cell? ⟨wr.heap.size, 0, none⟩ = some (.int .i64 (xa : Int)) := by rw [cell_of_block hnew 0]; rfl
      refine wp_region_need (fun w' => w'.cell? ⟨p, 0, none⟩ = some (.slice (some ⟨bl, 0, none⟩) d.pages.length d.pages.length) ∧ w'.cell? ⟨wr.heap.size, 0, none⟩ = some (.int .i64 (xa : Int))) (fun _ => true) (by kernel_rfl) ⟨hc0x, hxa0⟩ (fun hHeld => ?_)
      refine wpAnyN_tk (i := 0) (v := ?_) rfl (by kernel_rfl) (fun _ _ _ h => h) (Or.inl ⟨by rfl, ?_⟩) (by assumption) ?_
      rotate_left
      · intro w hSw; ((try dsimp only at hSw); go_simp; (try with_reducible rfl))
      simp only [Act.put, List.setIfInBounds_toArray, List.set_cons_zero, List.set_cons_succ]
      refine wpAnyN_tk (i := 1) (v := ?_) rfl (by kernel_rfl) (fun _ _ _ h => h) (Or.inl ⟨by rfl, ?_⟩) (by assumption) ?_
      rotate_left
      · intro w hSw; ((try dsimp only at hSw); go_simp; (try with_reducible rfl))
      simp only [Act.put, List.setIfInBounds_toArray, List.set_cons_zero, List.set_cons_succ]
      refine wpAnyN_tk (i := 2) (v := ?_) rfl (by kernel_rfl) (fun _ _ _ h => h) (Or.inl ⟨by rfl, ?_⟩) (by assumption) ?_
      rotate_left
      · intro w hSw; ((try dsimp only at hSw); go_simp; (try with_reducible rfl))
      simp only [Act.put, List.setIfInBounds_toArray, List.set_cons_zero, List.set_cons_succ]
      refine wpAnyN_tk (i := 3) (v := ?_) rfl (by kernel_rfl) (fun _ _ _ h => h) (Or.inl ⟨by rfl, ?_⟩) (by assumption) ?_
      rotate_left
      · intro w hSw; ((try dsimp only at hSw); go_simp; (try with_reducible rfl))
      simp only [Act.put, List.setIfInBounds_toArray, List.set_cons_zero, List.set_cons_succ]
      refine wpAnyN_tk (i := 4) (v := ?_) rfl (by kernel_rfl) (fun _ _ _ h => h) (Or.inl ⟨by rfl, ?_⟩) (by assumption) ?_
      rotate_left
      · intro w hSw; ((try dsimp only at hSw); go_simp; (try with_reducible rfl))
      simp only [Act.put, List.setIfInBounds_toArray, List.set_cons_zero, List.set_cons_succ]
      refine wpAnyN_tk (i := 5) (v := ?_) rfl (by kernel_rfl) (fun _ _ _ h => h) (Or.inl ⟨by rfl, ?_⟩) (by assumption) ?_
      rotate_left
      · intro w hSw; ((try dsimp only at hSw); go_simp; (try with_reducible rfl))
      simp only [Act.put, List.setIfInBounds_toArray, List.set_cons_zero, List.set_cons_succ]
      refine wpAnyN_tk (i := 6) (v := ?_) rfl (by kernel_rfl) (fun _ _ _ h => h) (Or.inl ⟨by rfl, ?_⟩) (by assumption) ?_
      rotate_left
      · intro w hSw; ((try dsimp only at hSw); go_simp; (try with_reducible rfl))
      simp only [Act.put, List.setIfInBounds_toArray, List.set_cons_zero, List.set_cons_succ]
      refine wpAnyN_tk (i := 7) (v := ?_) rfl (by kernel_rfl) (fun _ _ _ h => h) (Or.inl ⟨by rfl, ?_⟩) (by assumption) ?_
      rotate_left
      · intro w hSw; ((try dsimp only at hSw); go_simp; (try with_reducible rfl))
      simp only [Act.put, List.setIfInBounds_toArray, List.set_cons_zero, List.set_cons_succ]
      refine wpAnyN_tk (i := 8) (v := ?_) rfl (by kernel_rfl) (fun _ _ _ h => h) (Or.inl ⟨by rfl, ?_⟩) (by assumption) ?_
      rotate_left
      · intro w hSw; ((try dsimp only at hSw); go_simp; (try with_reducible rfl))
      simp only [Act.put, List.setIfInBounds_toArray, List.set_cons_zero, List.set_cons_succ]
      refine wpAnyN_tk (i := 11) (v := ?_) rfl (by kernel_rfl) (fun _ _ _ h => h) (Or.inl ⟨by rfl, ?_⟩) (by assumption) ?_
      rotate_left
      · intro w hSw; ((try dsimp only at hSw); go_simp; (try with_reducible rfl))
      simp only [Act.put, List.setIfInBounds_toArray, List.set_cons_zero, List.set_cons_succ]
      refine wpAnyN_tk (i := 12) (v := ?_) rfl (by kernel_rfl) (fun _ _ _ h => h) (Or.inl ⟨by rfl, ?_⟩) (by assumption) ?_
      rotate_left
      · intro w hSw; ((try dsimp only at hSw); go_simp; (try with_reducible rfl))
      simp only [Act.put, List.setIfInBounds_toArray, List.set_cons_zero, List.set_cons_succ]
      have hfk : (0 : Int) ≤ (f k : Int) ∧ (f k : Int) ≤ 512 := ⟨by omega, by have := hf k; omega⟩
      have hfk1 := hfk.1
      have hfk2 := hfk.2
      have hk6 : k ≤ 1000000 := by omega
      have hWk : ∀ j, j < w.heap.size → j ≠ bl → W.drew.heap[j]? = w.heap[j]? := fun j hj hjb => by
        show W.heap[j]? = _
        rw [← hW, Below.heap_alloc _ _ _ (Nat.lt_of_lt_of_le hj hstep.size)]; exact hsame j hj hjb
      have hcallk := hsaysH.out k W.drew hlt (fun j hj hjo => hWk j hj (by rintro rfl; rw [olH.out] at hjo; exact hjo rfl))
      have hcallH := hidden hcallk
      clear hcallk hfk
      refine wpAnyN_one (i := 9) rfl (by kernel_rfl) ?_
      go_wp2_with ((with_reducible refine hcallH.out.mono ?_); rintro e x' ⟨rfl, rfl⟩)
      refine ⟨fun _ => hHeld, ?_⟩
      refine wpAnyN_one (i := 10) rfl (by kernel_rfl) ?_
      go_wp2_with fail
      refine ⟨fun _ => hHeld, ?_⟩
      have hcl : (bvs (xl.take (f k))).length = f k := by rw [length_bvs, List.length_take, hxlH.out, Nat.min_eq_left (hf k)]
      have hnewW : W.drew.heap[wr.heap.size]? = some (.cells (Value.int .i64 (xa : Int) :: bvs xl).toArray 129 (0, 0)) := hnew
      have hsrc : W.drew.rangeAt wr.heap.size 1 (bvs (xl.take (f k))) := by
        have := range_of_block hnewW 1 (f k)
        rwa [List.drop_one, List.tail_cons, bvs_take] at this
      have hpl2 : (bvs pk.flatten).length = d.pages.length * 512 := by rw [length_bvs, length_pages _ hPkH.out.2, hPkH.out.1]
      have hfit : xa * 512 + (bvs (xl.take (f k))).length ≤ (bvs pk.flatten).length := by rw [hcl, hpl2]; have := hf k; omega
      have hB3 : W.drew.heap[bl]? = some (.cells (bvs pk.flatten).toArray 127 (0, 0)) := hB2
      have hth := there_of_block hB3 (xa * 512) _ hfit
      have hcp := run_copy_cells (P := Try.prog) W.drew 28 28 3 5 bl (xa * 512) (f k) 512 ⟨wr.heap.size, 1, none⟩ 512 512 (bvs (xl.take (f k))) Try.underlying28 s5 (by rw [hcl]; exact (Nat.min_eq_right (hf k)).symm)
        (fun j v hv => by rw [Addr.add_mid]; exact hsrc j v hv) (fun j hj => (hth j hj).1) (fun j hj => (hth j hj).2) (one_bvs _)
      have hcpl : (bvs (xl.take (f k))).length ≤ 512 := by rw [hcl]; exact hf k
      have hcells := heap_setCells_same bl 127 (bvs (xl.take (f k))) (xa * 512) W.drew _ hB3 hfit
      refine wpAnyN_one (i := 13) rfl (by kernel_rfl) ?_
      refine wpList_run rfl (exec_copy (.tmp 26) (.tmp 28) 28 28 rfl hcp) ?_
      refine wpList_nil ?_
      simp only [Act.put, List.setIfInBounds_toArray, List.set_cons_zero, List.set_cons_succ]
      have hplW : p ≠ wr.heap.size := by omega
      have hnebl : wr.heap.size ≠ bl := by omega
      refine ⟨fun _ => ⟨?_, ?_⟩, ?_⟩
      · rw [World.cell?_of_block (w := W.drew) (a := ⟨p, 0, none⟩) (heap_setCells_other bl _ _ _ p hpbl)]; exact hc0x
      · rw [World.cell?_of_block (w := W.drew) (a := ⟨wr.heap.size, 0, none⟩) (heap_setCells_other bl _ _ _ _ hnebl)]; exact hxa0
      refine wpAnyN_done (by kernel_rfl) ?_ _
      clear hcp hth hsrc hcells
      generalize hW4 : W.drew.setCells bl (xa * 512) (bvs (xl.take (f k))) = W4 at *
      go_wp2_with fail
      go_roundw
      case rel =>
        refine ⟨k + 1, hlt, by go_num, ?_, ?_, ?_⟩
        · rw [← hW4, heap_setCells_same bl 127 (bvs (xl.take (f k))) (xa * 512) W.drew _ hB3 hfit, hsnH.out]
          rw [hcl, bvs_take, bvs_drop, ← bvs_append, ← bvs_append]
          have := set_pages pk xa (xl.take (f k)) (by rw [hPkH.out.1]; exact hx1) hPkH.out.2 (by rw [List.length_take, hxlH.out]; have := hf k; omega)
          have hl2 : (xl.take (f k)).length = f k := by rw [← length_bvs]; exact hcl
          rw [hl2] at this
          rw [this]; rfl
        · intro j hj hjb
          rw [← hW4, heap_setCells_other bl _ _ _ j hjb]
          show W.heap[j]? = _
          rw [← hW, Below.heap_alloc _ _ _ (Nat.lt_of_lt_of_le hj hstep.size)]; exact hsame j hj hjb
        · rw [← hW4]
          exact (hs1.drew).setCells bl _ _ (.inl (by rw [olH.out]; rfl))
      case measure => simp [intOf]; omega
    · have hke : k = d.row.length := by omega
      subst hke
      have hPk := hPWH.out d.row hw4
      have hPkH := hidden hPk
      clear hPk
      have hfin : Step (Only D) w o (wr.setCell ⟨p, 1, none⟩ (.slice none 0 0)) o := hstep.setCell _ (.inl (by show Only D (o p).1; rw [opH.out]; rfl))
      have hat : DiskAt (wr.setCell ⟨p, 1, none⟩ (.slice none 0 0)) o D p (d.done f) := by
        refine ⟨bl, .slice none 0 0, ?_, ?_, World.ownsRow_nil _ _ _ _, opH.out, olH.out, ?_, ?_⟩
        · have := heap_setCell_at (i := 1) (.slice none 0 0) (hpr.trans hp)
          rw [this]; simp [DiskM.done, hPkH.out.1]
        · rw [Below.heap_setCell _ _ _ _ (by exact fun h => hpbl h.symm), hB, List.take_length]; rfl
        · intro j hj; simp [Value.ownBlock] at hj
        · exact ⟨by simp only [DiskM.done, hPkH.out.1]; exact hw1, by simp only [DiskM.done, hPkH.out.1]; exact hw2, hPkH.out.2, by simp [DiskM.done], hw5, hw6⟩
      go_wp2_with fail
      go_end0
      exact ⟨_, o, rfl, hfin, rfl, hat⟩
end Go.Proofs.YtfgggkheadfiaaaR
/- Contracts of the disk: Sync, Restart. -/
namespace Go.Proofs.YtfgggkheadfiaaaR
open Go Go.RowKit
attribute [local go_sem ↓] Go.wp_at_zero Go.wp_at_succ

def ivs (l : List Int) : List Value := l.map (.int .i64)
def Ints (w : World) (o : Own) (v : Value) (l : List Int) : Prop := Slc w o v l.length (ivs l)

theorem sync1_any (i : Int) (x : World) : Calls Try.prog 70 #[.int .i64 i] x fun e x' => e = .returned (.int .i64 512) ∧ x = x' := by
  go_enter Try.func70, Try.ntmps70
  go_wp2
  go_ret
  exact ⟨rfl, rfl⟩

theorem fate_eq (a : Int) : ((a.tmod 513) + 513) % 513 = a % 513 := by
  have e1 : (a.tmod 513) = a % 513 ∨ (a.tmod 513) = a % 513 - 513 := by
    rw [Int.tmod_eq_emod]
    split
    · left; omega
    · right; simp
  omega

set_option maxRecDepth 100000 in
set_option maxHeartbeats 800000 in
theorem restart1_any (i : Nat) (x : World) (o : Own) (box : Nat) (fv : Value) (l : List Int) (hbox : x.cell? ⟨box, 0, none⟩ = some fv) (hl : Ints x o fv l) (hwf : ∀ a ∈ l, -9223372036854775808 ≤ a ∧ a ≤ 9223372036854775807) (hi : i ≤ 1000000) :
    Calls Try.prog 71 #[.int .i64 (i : Int), .pointer (some ⟨box, 0, none⟩)] x fun e x' => e = .returned (.int .i64 (DiskM.fate l i : Int)) ∧ x = x' := by
  rcases hl with ⟨⟨sa, sc, rfl⟩, hn, hcs⟩ | ⟨b, off, cap, rfl, hlc, hm, ho, hb, hr⟩
  · have : l = [] := List.eq_nil_of_length_eq_zero hn
    subst this
    have hE : (DiskM.fate [] i : Int) = 0 := by simp [DiskM.fate]
    rw [hE]
    go_enter Try.func71, Try.ntmps71
    go_wp2
    go_ret
    exact ⟨rfl, rfl⟩
  · by_cases hlt : i < l.length
    · have hc : x.cell? ⟨b, off + i, none⟩ = some (.int .i64 l[i]) := hr i _ (by simp [ivs, hlt])
      have hbd := hwf l[i] (List.getElem_mem hlt)
      have hE : (DiskM.fate l i : Int) = l[i] % 513 := by
        simp only [DiskM.fate, List.getD_eq_getElem?_getD, List.getElem?_eq_getElem hlt, Option.getD_some]
        omega
      rw [hE]
      generalize l[i] = a at *
      have hcap : (l.length : Int) ≤ 9223372036854775807 := by unfold maxLen at hm; omega
      have b1 := hbd.1
      have b2 := hbd.2
      clear hbd hE hr hwf
      have g1 : -513 < a.tmod 513 := by have := Int.tmod_lt_of_pos a (show (0:Int) < 513 by omega); have h2 := Int.lt_tmod_of_pos a (show (0:Int) < 513 by omega); omega
      have g2 : a.tmod 513 < 513 := Int.tmod_lt_of_pos a (by omega)
      go_enter Try.func71, Try.ntmps71
      go_wp2
      go_ret
      exact ⟨by rw [← fate_eq a]; rfl, rfl⟩
    · have hE : (DiskM.fate l i : Int) = 0 := by
        simp only [DiskM.fate, List.getD_eq_getElem?_getD]
        rw [List.getElem?_eq_none (by omega)]; simp
      rw [hE]
      clear hE
      have hcap : (l.length : Int) ≤ 9223372036854775807 := by unfold maxLen at hm; omega
      go_enter Try.func71, Try.ntmps71
      go_wp2
      go_ret
      exact ⟨rfl, rfl⟩

theorem sync_no {w : World} {o : Own} {D p : Nat} {d : DiskM} (h : DiskAt w o D p d) (hc : (d.counted (d.asked 0 512)).2 ≠ 0) :
    Calls Try.prog 24 #[.pointer (some ⟨p, 0, none⟩)] w (Ret (Only D) w o fun v w' o' => v = .int .i64 d.sync.2 ∧ DiskAt w' o' D p d.sync.1) := by
  have hE : d.sync = d.counted (d.asked 0 512) := by simp [DiskM.sync, hc]
  rw [hE]
  obtain ⟨e, he⟩ : ∃ e, Hid (d.asked 0 512 = e) := ⟨_, rfl⟩
  rw [he.out] at hc ⊢
  obtain ⟨d1, e1, hd⟩ : ∃ d1 e1, Hid (d.counted e = (d1, e1)) := ⟨_, _, rfl⟩
  rw [hd.out] at hc ⊢
  have hc' : (e1 != 0) = true := by simpa using hc
  clear hc hE
  go_enter Try.func24, Try.ntmps24
  go_wp2_with (first | (go_at_call 68; refine (asked_is h _ _ _ he).mono ?_; rintro e w' ⟨rfl, rfl⟩) | (go_at_call 67; refine (counted_is h _ hd).mono ?_; rintro e w' ⟨v1, o1, rfl, hs1, rfl, hd1⟩))
  go_ret
  exact ⟨_, o1, rfl, hs1, rfl, hd1⟩

theorem sync_any {w : World} {o : Own} {D p : Nat} {d : DiskM} (h : DiskAt w o D p d) (hrow : d.row.length ≤ 1000000) :
    Calls Try.prog 24 #[.pointer (some ⟨p, 0, none⟩)] w (Ret (Only D) w o fun v w' o' => v = .int .i64 d.sync.2 ∧ DiskAt w' o' D p d.sync.1) := by
  by_cases hc : (d.counted (d.asked 0 512)).2 = 0
  · have hE : d.sync = ((d.counted (d.asked 0 512)).1.done fun _ => 512, 0) := by simp [DiskM.sync, hc]
    rw [hE]
    obtain ⟨hpg, hrw⟩ := DiskM.counted_same d (d.asked 0 512)
    obtain ⟨e, he⟩ : ∃ e, Hid (d.asked 0 512 = e) := ⟨_, rfl⟩
    rw [he.out] at hc hrw ⊢
    obtain ⟨d1, e1, hd⟩ : ∃ d1 e1, Hid (d.counted e = (d1, e1)) := ⟨_, _, rfl⟩
    rw [hd.out] at hc hrw ⊢
    simp only at hc hrw ⊢
    subst hc
    have hrow1 : d1.row.length ≤ 1000000 := by rw [hrw]; exact hrow
    clear hE hpg hrw
    go_enter Try.func24, Try.ntmps24
    go_wp2_with (first
      | (go_at_call 68; refine (asked_is h _ _ _ he).mono ?_; rintro e w' ⟨rfl, rfl⟩)
      | (go_at_call 67; refine (counted_is h _ hd).mono ?_; rintro e w1 ⟨v1, o1, rfl, hs1, rfl, hd1⟩)
      | (go_at_call 69; refine (done_any hd1 hrow1 70 #[] (fun _ => 512) (by simp) Try.call70 ?_).mono ?_; (intro i x _ _; exact sync1_any _ _); rintro e w2 ⟨v2, o2, rfl, hs2, rfl, hd2⟩))
    go_ret
    exact ⟨_, o2, rfl, hs1.trans hs2, rfl, hd2⟩
  · exact sync_no h hc

set_option maxRecDepth 100000 in
set_option maxHeartbeats 800000 in
theorem restart_any {w : World} {o : Own} {D p : Nat} {d : DiskM} (h : DiskAt w o D p d) (hD : D ≠ 0) (hrow : d.row.length ≤ 1000000) (fv : Value) (l : List Int) (hl : Ints w o fv l) (hwf : ∀ a ∈ l, -9223372036854775808 ≤ a ∧ a ≤ 9223372036854775807) :
    Calls Try.prog 26 #[.pointer (some ⟨p, 0, none⟩), fv] w (Ret (Only D) w o fun v w' o' => v = .tuple #[] ∧ DiskAt w' o' D p (d.restart l)) := by
  obtain ⟨ra, rc, rfl⟩ := slc_form hl
  generalize hfe : Value.slice ra l.length rc = fv at *
  have hs0 : Step (Only D) w o (w.alloc (.cells #[fv] 34)) (tagAt o w.heap.size (0, 0)) := (Step.refl _ w o).alloc _ _
  have hd0 : DiskAt (w.alloc (.cells #[fv] 34)) (tagAt o w.heap.size (0, 0)) D p d := h.step ((Step.refl Nobody w o).alloc _ _) (fun x => x)
  have hl0 : Ints (w.alloc (.cells #[fv] 34)) (tagAt o w.heap.size (0, 0)) fv l := hl.step ((Step.refl Nobody w o).alloc _ _) (fun x => x)
  have hbx : (w.alloc (.cells #[fv] 34)).heap[w.heap.size]? = some (.cells #[fv] 34 (0, 0)) := heap_alloc_new w _
  have hsays : ∀ (i : Nat) (x : World), i < d.row.length → (∀ k, k < (w.alloc (.cells #[fv] 34)).heap.size → (tagAt o w.heap.size (0, 0) k).1 ≠ D → x.heap[k]? = (w.alloc (.cells #[fv] 34)).heap[k]?) →
      Calls Try.prog 71 (#[.int .i64 (i : Int)] ++ #[.pointer (some ⟨w.heap.size, 0, none⟩)]) x fun e x' => e = .returned (.int .i64 (DiskM.fate l i : Int)) ∧ x = x' := by
    intro i x hi hx
    have hb1 : x.heap[w.heap.size]? = some (.cells #[fv] 34 (0, 0)) := by rw [hx _ (by simp) (by rw [tagAt_same]; exact fun h => hD h.symm)]; exact hbx
    have hl1 : Ints x (fun k => if k < (w.alloc (.cells #[fv] 34)).heap.size then tagAt o w.heap.size (0, 0) k else (0, 0)) fv l := by
      rcases hl0 with h0 | ⟨b, off, cap, hv, hlc, hm, ho, hb, hr⟩
      · exact .inl h0
      · have e := hx b hb (by rw [ho]; exact fun h => hD h.symm)
        refine .inr ⟨b, off, cap, hv, hlc, hm, by simp only [if_pos hb]; exact ho, ?_, range_same hr e⟩
        have hb' : b < x.heap.size := by
          rcases Nat.lt_or_ge b x.heap.size with h1 | h1
          · exact h1
          · rw [Array.getElem?_eq_none h1, Array.getElem?_eq_getElem hb] at e; cases e
        exact hb'
    exact restart1_any i x _ w.heap.size fv l (cell_of_one hb1) hl1 hwf (by omega)
  have hsaysH := hidden hsays
  clear hsays hwf hl hl0 hbx
  subst hfe
  have hlast : ∀ (w2 : World) (o2 : Own), Step (Only D) w o w2 o2 → DiskAt w2 o2 D p (d.done (DiskM.fate l)) → Hid (Step (Only D) w o ((w2.setCell ⟨p, 3, none⟩ (.bool false)).setCell ⟨p, 2, none⟩ (.int .i64 (-1))) o2 ∧
      DiskAt ((w2.setCell ⟨p, 3, none⟩ (.bool false)).setCell ⟨p, 2, none⟩ (.int .i64 (-1))) o2 D p (d.restart l)) := fun w2 o2 hs2 hd2 =>
    ⟨(hs2.trans (hd2.setStep 3 (.bool false))).trans ((hd2.setDead false).setStep 2 (.int .i64 (-1))), (hd2.setDead false).setLeft (-1) (by omega)⟩
  go_enter Try.func26, Try.ntmps26
  go_wp2_with (first
    | (go_at_call 69; refine (done_any hd0 hrow 71 #[.pointer (some ⟨w.heap.size, 0, none⟩)] (DiskM.fate l) (DiskM.fate_le l) Try.call71 hsaysH.out).mono ?_; rintro e w2 ⟨v2, o2, rfl, hs2, rfl, hd2⟩
       have hl2 := hlast w2 o2 (hs0.trans hs2) hd2
       clear hlast
       obtain ⟨bl, rv, ⟨c0, c1, c2, c3⟩, ⟨f1, f2, f3⟩, -⟩ := hd2.open
       have c2x : (w2.setCell ⟨p, 3, none⟩ (.bool false)).cell? ⟨p, 2, none⟩ = some (.int .i64 (d.done (DiskM.fate l)).left) := by rw [World.cell?_setCell_other _ _ _ _ (by simp)]; exact c2))
  go_end0
  exact ⟨_, o2, rfl, hl2.out.1, rfl, hl2.out.2⟩
end Go.Proofs.YtfgggkheadfiaaaR
/- Contract of the laws' own 'Sheet': 512 bytes that rise. -/
namespace Go.Proofs.YtfgggkheadfiaaaR
open Go Go.RowKit
attribute [local go_sem ↓] Go.wp_at_zero Go.wp_at_succ

def sheetSt (b s : UInt8) : Nat → UInt8
  | 0 => b
  | n + 1 => sheetSt b s n + s
def sheetL (b s : UInt8) (n : Nat) : List UInt8 := (List.range n).map (sheetSt b s)

theorem inf5 : (Try.prog.info? 5).map (fun i => (i.zero.map (fun z => z.cells.toList), i.size, i.bytes)) = some (some [.int .u8 0], 1, 1) := by kernel_rfl

/-- New bytes of the call's own: they may be appended to. -/
def NewB (w w' : World) (o' : Own) (v : Value) (l : List UInt8) : Prop :=
  w'.ownsRow w.heap.size 5 1 v l.length (bvs l) ∧ ∀ k, v.ownBlock = some k → o' k = (0, 0)
theorem NewB.bytes {w w' : World} {o' : Own} {v : Value} {l : List UInt8} (h : NewB w w' o' v l) : Bytes w' o' v l := by
  obtain ⟨h1, h2⟩ := h
  rcases h1.2 with ⟨rfl, h0⟩ | ⟨g, cap, cur, rfl, hb, hg, hnc, hcm, hcs, htake⟩
  · rw [List.eq_nil_of_length_eq_zero h0]; exact Bytes.nil _ _
  · refine .inr ⟨g, 0, cap, rfl, hnc, hcm, by rw [h2 g rfl], lt_of_block hg, ?_⟩
    have e1 : w'.heap[g]? = some (.cells cur.toList.toArray 5 (0, 0)) := by simpa using hg
    have := range_of_block e1 0 l.length
    rw [List.drop_zero] at this
    rw [Nat.mul_one] at htake
    rwa [htake] at this

end Go.Proofs.YtfgggkheadfiaaaR
/- The laws of layer 7: contracts in the form that a law's walk wants; 'wakes', the example that each of them ends with. -/
namespace Go.Proofs.YtfgggkheadfiaaaR
open Go Go.RowKit
attribute [local go_sem ↓] Go.wp_at_zero Go.wp_at_succ

section
variable {w : World} {o : Own} {D p : Nat} {d d1 : DiskM} {e1 : Int}
theorem write_is (h : DiskAt w o D p d) (hD : D ≠ 0) (hrow : d.row.length ≤ 1000000) (at' : Int) (v : Value) (l : List UInt8) (hb : Bytes w o v l) (he : d.write at' l = (d1, e1)) :
    Calls Try.prog 22 #[.pointer (some ⟨p, 0, none⟩), .int .i64 at', v] w (Ret (Only D) w o fun v w' o' => v = .int .i64 e1 ∧ DiskAt w' o' D p d1) := by
  have := write_any h hD at' v l hb hrow
  rw [he] at this; exact this
theorem sync_is (h : DiskAt w o D p d) (hrow : d.row.length ≤ 1000000) (he : d.sync = (d1, e1)) :
    Calls Try.prog 24 #[.pointer (some ⟨p, 0, none⟩)] w (Ret (Only D) w o fun v w' o' => v = .int .i64 e1 ∧ DiskAt w' o' D p d1) := by
  have := sync_any h hrow
  rw [he] at this; exact this
theorem restart_is (h : DiskAt w o D p d) (hD : D ≠ 0) (hrow : d.row.length ≤ 1000000) (fv : Value) (l : List Int) (hl : Ints w o fv l) (hwf : ∀ a ∈ l, -9223372036854775808 ≤ a ∧ a ≤ 9223372036854775807) (he : d.restart l = d1) :
    Calls Try.prog 26 #[.pointer (some ⟨p, 0, none⟩), fv] w (Ret (Only D) w o fun v w' o' => v = .tuple #[] ∧ DiskAt w' o' D p d1) := by
  have := restart_any h hD hrow fv l hl hwf
  rw [he] at this; exact this
end


/-- bytes as a string. -/
theorem conv_string {w : World} {o : Own} {v : Value} {l : List UInt8} (h : Bytes w o v l) : (convert 28 9 v).run Try.prog w = .ok (.string ⟨l.toArray⟩) w := by
  rcases h.cases with ⟨⟨a, c, rfl⟩, rfl⟩ | ⟨b, off, cap, rfl, hl, hm, ho, hb, hr⟩
  · rw [run_convert_bytes_string w 28 9 5 a 0 c Try.underlying28 Try.underlying5 Try.underlying9]
    cases a <;> simp [Conv.bytesToString, loadCells, loadCellsFrom] <;> rfl
  · have := run_convert_bytes_arg (P := Try.prog) w 28 5 Try.underlying28 Try.underlying5 b off l.length cap (l.map fun x => (x.toNat : Int)) (by simp) (fun i hi => by
      rw [hr i (bv l[i]) (by rw [get_bvs, List.getElem?_eq_getElem hi]; rfl)]
      simp [bv, List.getElem?_eq_getElem hi]) 9 Try.underlying9
    rw [this]
    simp [strOfNums, Function.comp_def]

def A512 : List UInt8 := List.replicate 512 97
def B512 : List UInt8 := List.replicate 512 98
def wk0 : DiskM := DiskM.new 2
def wk1 : DiskM := (wk0.write 0 A512).1
def wk2 : DiskM := (wk1.write 0 B512).1
def wk3 : DiskM := wk2.restart [5, 2]
def wkp : List UInt8 := (wk3.read 0).1

attribute [irreducible] wk0 wk1 wk2 wk3 wkp A512 B512

end Go.Proofs.YtfgggkheadfiaaaR
/- The disk's law of the countdown: DiskCountdown. -/
namespace Go.Proofs.YtfgggkheadfiaaaR
open Go Go.RowKit
attribute [local go_sem ↓] Go.wp_at_zero Go.wp_at_succ


namespace DiskM
/-- A disk of two pages with power. -/
def two (d : DiskM) (left : Int) (most : Nat) : Prop := d.dead = false ∧ d.left = left ∧ d.pages.length = 2 ∧ d.row.length ≤ most
end DiskM


end Go.Proofs.YtfgggkheadfiaaaR
/- From a law's walk to its row: what was there when the call began reads as it read. Over any program. -/
namespace Go.Proofs.YtfgggkheadfiaaaR
open Go Go.RowKit Go.ChangeShapes Go.WideShapes Go.ChangeAt

theorem trodAll_below {H : Type} {enc : TypeId × Value → H} {P : Program} (hl : laidOutB P = true) {W W' : World} (hb : Below W.heap.size W W') :
    ∀ (ts : List TypeId) (vs : List Value) (ds : List (DataW H)) (ps : List MemPlace), (ts.all fun t => P.readableRec t && decide (t < P.types.size)) = true →
      DataW.TrodAll enc P W 0 (fun _ => true) true ts vs ds ps → (∀ x ∈ ps, x.block < W.heap.size) → DataW.TrodAll enc P W' 0 (fun b => decide (b < W.heap.size)) true ts vs ds ps
  | [], [], [], _, _, h, _ => h
  | t :: ts, v :: vs, d :: ds, ps, hts, h, hlt => by
    obtain ⟨p, q, h1, h2, rfl⟩ := h
    simp only [List.all_cons, Bool.and_eq_true, decide_eq_true_eq] at hts
    exact ⟨p, q, Below.trod hl hts.1.1 hts.1.2 h1 hb (fun x hx => hlt x (List.mem_append_left _ hx)), trodAll_below hl hb ts vs ds q hts.2 h2 (fun x hx => hlt x (List.mem_append_right _ hx)), rfl⟩
  | [], _ :: _, _, _, _, h, _ => h.elim
  | [], [], _ :: _, _, _, h, _ => h.elim
  | _ :: _, [], _, _, _, h, _ => h.elim
  | _ :: _, _ :: _, [], _, _, h, _ => h.elim

/-- The post of a law: it returned true, and nothing that was there has turned. -/
theorem law_post {H : Type} {enc : TypeId × Value → H} {P : Program} {f : Func} {s : ChangeSpec} {W W' : World} {args : Array Value} {ds gs : List (DataW H)} {before : List MemPlace} {tb : TypeId}
    (hl : laidOutB P = true) (hts : (f.params.toList.all fun t => P.readableRec t && decide (t < P.types.size)) = true)
    (hr : f.resultTypes = #[tb]) (hu : P.underlying tb = some .bool)
    (hW : DataW.Whole enc P f.params.toList s.vars false W args.toList ds gs before) (hgs : gs = []) (hvars : s.vars = [])
    (e1 : (s.fn H ds).results = [.lit (.bool true)]) (e2 : (s.fn H ds).args = ds) (e3 : (s.fn H ds).vars = [])
    (hb : Below W.heap.size W W') : s.post enc P f false true false false W args (.bool true) W' := by
  subst hgs
  have hW' := hW
  obtain ⟨p, q, hA, hV, hpq, _, _⟩ := hW
  have hA' : DataW.TrodAll enc P W 0 (fun _ => true) true f.params.toList args.toList ds p := hA
  have hq : q = [] := by
    rw [hvars] at hV
    exact hV
  subst hq
  have hpq' : before = p := by simpa using hpq
  subst hpq'
  refine ⟨ds, [], before, [], before, [], hW', ?_, ?_, ?_, hb.frame _, fun h => by cases h⟩
  · rw [List.append_nil, e1, hr]
    exact trodAll_cons_mk (shut_bool hu true) trodAll_mk0
  · rw [List.append_nil, e2]
    exact trodAll_below hl hb _ _ _ _ hts hA' (fun x hx => by simpa using hW'.lt x hx)
  · rw [List.append_nil, e3, hvars]; rfl
end Go.Proofs.YtfgggkheadfiaaaR
