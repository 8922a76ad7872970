/- Plain words and laws that all of this seat's walks share: bytes as cells, the ghost map that says whose a block is, and how a world may change. Over any program; no conditions. -/
import Derived.WalkKit
import Derived.WalkSpells
import Derived.WalkLawsBesides
import Derived.Deep.MidRow
import Derived.Deep.AppendLies
namespace Go.Proofs.YtfgggkheadfiaaaR
open Go Go.RowKit

/-- A byte as a cell. -/
def bv (x : UInt8) : Value := .int .u8 (x.toNat : Int)
def bvs (l : List UInt8) : List Value := l.map bv

@[simp] theorem length_bvs (l : List UInt8) : (bvs l).length = l.length := by simp [bvs]
@[simp] theorem bvs_nil : bvs [] = [] := rfl
@[simp] theorem bvs_append (l m : List UInt8) : bvs (l ++ m) = bvs l ++ bvs m := by simp [bvs]
theorem bvs_take (l : List UInt8) (n : Nat) : (bvs l).take n = bvs (l.take n) := by simp [bvs]
theorem bvs_drop (l : List UInt8) (n : Nat) : (bvs l).drop n = bvs (l.drop n) := by simp [bvs]
theorem one_bv (x : UInt8) : (bv x).oneCell' = true := rfl
theorem one_bvs (l : List UInt8) : ∀ v ∈ bvs l, v.oneCell' = true := by
  intro v hv
  simp only [bvs, List.mem_map] at hv
  obtain ⟨x, _, rfl⟩ := hv
  rfl
theorem one_cons {x : Value} {l : List Value} (hx : x.oneCell' = true) (h : ∀ v ∈ l, v.oneCell' = true) : ∀ v ∈ x :: l, v.oneCell' = true := by
  intro v hv
  rcases List.mem_cons.1 hv with rfl | hv
  · exact hx
  · exact h v hv
theorem get_bvs (l : List UInt8) (j : Nat) : (bvs l)[j]? = l[j]?.map bv := by simp [bvs]
theorem bv_inj {x y : UInt8} (h : bv x = bv y) : x = y := by
  simp only [bv, Value.int.injEq, true_and] at h
  exact UInt8.toNat_inj.1 (by omega)
theorem bvs_inj {l m : List UInt8} (h : bvs l = bvs m) : l = m := by
  exact (List.map_inj_right (fun x y => @bv_inj x y)).1 h

/-- Whose a block is: an object's number, and which part of it. 0: plain data, not written any more. -/
abbrev Own := Nat → Nat × Nat

def tagAt (o : Own) (k : Nat) (t : Nat × Nat) : Own := fun i => if i = k then t else o i
@[simp] theorem tagAt_same (o : Own) (k : Nat) (t : Nat × Nat) : tagAt o k t k = t := by simp [tagAt]
theorem tagAt_other (o : Own) {k i : Nat} (t : Nat × Nat) (h : i ≠ k) : tagAt o k t i = o i := by simp [tagAt, h]

/-- From w to w' nothing that was there has turned, but for blocks of the objects T. -/
structure Step (T : Nat → Prop) (w : World) (o : Own) (w' : World) (o' : Own) : Prop where
  os : w'.os = w.os
  tape : w'.tape = w.tape
  output : w'.output = w.output
  size : w.heap.size ≤ w'.heap.size
  own : ∀ k, k < w.heap.size → o' k = o k
  block : ∀ k, k < w.heap.size → ¬ T (o k).1 → w'.heap[k]? = w.heap[k]?

def Nobody : Nat → Prop := fun _ => False
def Only (D : Nat) : Nat → Prop := fun k => k = D

section
variable {T T' : Nat → Prop} {w w1 w2 : World} {o o1 o2 : Own}

theorem Step.refl (T : Nat → Prop) (w : World) (o : Own) : Step T w o w o := ⟨rfl, rfl, rfl, Nat.le_refl _, fun _ _ => rfl, fun _ _ _ => rfl⟩
theorem Step.trans (h : Step T w o w1 o1) (g : Step T w1 o1 w2 o2) : Step T w o w2 o2 :=
  ⟨g.os.trans h.os, g.tape.trans h.tape, g.output.trans h.output, Nat.le_trans h.size g.size,
   fun k hk => (g.own k (Nat.lt_of_lt_of_le hk h.size)).trans (h.own k hk),
   fun k hk ht => (g.block k (Nat.lt_of_lt_of_le hk h.size) (by rw [h.own k hk]; exact ht)).trans (h.block k hk ht)⟩
theorem Step.mono (h : Step T w o w1 o1) (hT : ∀ k, T k → T' k) : Step T' w o w1 o1 :=
  ⟨h.os, h.tape, h.output, h.size, h.own, fun k hk ht => h.block k hk (fun hx => ht (hT _ hx))⟩
theorem Step.alloc (h : Step T w o w1 o1) (ob : Obj) (t : Nat × Nat) : Step T w o (w1.alloc ob) (tagAt o1 w1.heap.size t) :=
  h.trans ⟨rfl, rfl, rfl, by simp, fun k hk => tagAt_other _ _ (by omega), fun k hk _ => Below.heap_alloc _ _ _ hk⟩
theorem Step.alloc' (h : Step T w o w1 o1) (ob : Obj) : Step T w o (w1.alloc ob) o1 :=
  h.trans ⟨rfl, rfl, rfl, by simp, fun _ _ => rfl, fun k hk _ => Below.heap_alloc _ _ _ hk⟩
theorem Step.drew (h : Step T w o w1 o1) : Step T w o w1.drew o1 := ⟨h.os, h.tape, h.output, h.size, h.own, h.block⟩
theorem Step.drewN (h : Step T w o w1 o1) (n : Nat) : Step T w o (w1.drewN n) o1 := ⟨h.os, h.tape, h.output, h.size, h.own, h.block⟩
theorem Step.setCell (h : Step T w o w1 o1) {a : Addr} (v : Value) (ha : T (o1 a.block).1 ∨ w.heap.size ≤ a.block) : Step T w o (w1.setCell a v) o1 := by
  refine ⟨h.os, h.tape, h.output, by simpa using h.size, h.own, fun k hk ht => ?_⟩
  rw [Below.heap_setCell]
  · exact h.block k hk ht
  · rintro rfl
    rcases ha with ha | ha
    · rw [h.own _ hk] at ha; exact ht ha
    · omega
theorem Step.nobody {D : Nat} (h : Step (Only D) w o w1 o1) (hD : ∀ k, k < w.heap.size → (o k).1 ≠ D) : Step Nobody w o w1 o1 :=
  ⟨h.os, h.tape, h.output, h.size, h.own, fun k hk _ => h.block k hk (hD k hk)⟩
theorem Step.only (h : Step Nobody w o w1 o1) (D : Nat) : Step (Only D) w o w1 o1 := h.mono fun _ x => x.elim
theorem Step.below (h : Step Nobody w o w1 o1) : Below w.heap.size w w1 :=
  ⟨h.os, h.tape, h.output, h.size, fun k hk => h.block k hk (fun x => x)⟩
theorem Step.below' {B : Nat} (h : Step T w o w1 o1) (hB : B ≤ w.heap.size) (hT : ∀ k, k < B → ¬ T (o k).1) : Below B w w1 :=
  ⟨h.os, h.tape, h.output, h.size, fun k hk => h.block k (by omega) (hT k hk)⟩
end

theorem tag_bound (o : Own) (b : Nat) : ∀ n : Nat, ∃ M, b ≤ M ∧ ∀ k, k < n → (o k).1 ≤ M
  | 0 => ⟨b, Nat.le_refl _, fun k hk => by omega⟩
  | n + 1 => by
    obtain ⟨M, h1, h2⟩ := tag_bound o b n
    refine ⟨max M (o n).1, by omega, fun k hk => ?_⟩
    by_cases hkn : k = n
    · subst hkn; omega
    · have := h2 k (by omega); omega
/-- An object's number that nothing bears yet. -/
theorem fresh_tag (o : Own) (n b : Nat) : ∃ D, b < D ∧ ∀ k, k < n → (o k).1 ≠ D := by
  obtain ⟨M, h1, h2⟩ := tag_bound o b n
  exact ⟨M + 1, by omega, fun k hk => by have := h2 k hk; omega⟩
theorem heap_setCells_other (b : Nat) : ∀ (vs : List Value) (off : Nat) (w : World) (k : Nat), k ≠ b → (w.setCells b off vs).heap[k]? = w.heap[k]?
  | [], _, _, _, _ => rfl
  | v :: r, off, w, k, h => by
    rw [World.setCells, heap_setCells_other b r (off + 1) _ k h, Below.heap_setCell _ _ _ _ h]
theorem size_setCells (b : Nat) : ∀ (vs : List Value) (off : Nat) (w : World), (w.setCells b off vs).heap.size = w.heap.size
  | [], _, _ => rfl
  | v :: r, off, w => by rw [World.setCells, size_setCells b r]; simp
theorem setCells_os (b : Nat) : ∀ (vs : List Value) (off : Nat) (w : World), (w.setCells b off vs).os = w.os ∧ (w.setCells b off vs).tape = w.tape ∧ (w.setCells b off vs).output = w.output
  | [], _, _ => ⟨rfl, rfl, rfl⟩
  | v :: r, off, w => by rw [World.setCells]; exact setCells_os b r _ _
theorem Step.setCells {T : Nat → Prop} {w w1 : World} {o o1 : Own} (h : Step T w o w1 o1) (b off : Nat) (vs : List Value) (ha : T (o1 b).1 ∨ w.heap.size ≤ b) : Step T w o (w1.setCells b off vs) o1 := by
  obtain ⟨e1, e2, e3⟩ := setCells_os b vs off w1
  refine ⟨e1.trans h.os, e2.trans h.tape, e3.trans h.output, by rw [size_setCells]; exact h.size, h.own, fun k hk ht => ?_⟩
  rw [heap_setCells_other]
  · exact h.block k hk ht
  · rintro rfl
    rcases ha with ha | ha
    · rw [h.own _ hk] at ha; exact ht ha
    · omega

/-- What a block holds behind a store of many cells. -/
theorem heap_setCells_same (b : Nat) (E : TypeId) : ∀ (vs : List Value) (off : Nat) (w : World) (cs : List Value), w.heap[b]? = some (.cells cs.toArray E (0, 0)) → off + vs.length ≤ cs.length →
    (w.setCells b off vs).heap[b]? = some (.cells (cs.take off ++ vs ++ cs.drop (off + vs.length)).toArray E (0, 0))
  | [], off, w, cs, h, _ => by simp [World.setCells, h]
  | v :: r, off, w, cs, h, hl => by
    have hb := lt_of_block h
    have h1 : (w.setCell ⟨b, off, none⟩ v).heap[b]? = some (.cells (cs.set off v).toArray E (0, 0)) := by
      simp only [World.setCell, Array.getElem?_modify]
      simp [h]
    rw [World.setCells, heap_setCells_same b E r (off + 1) _ _ h1 (by simp at hl ⊢; omega)]
    simp only [List.length_cons] at hl ⊢
    congr 3
    rw [List.take_set, List.drop_set]
    rw [if_pos (by omega)]
    have : off < cs.length := by omega
    rw [List.take_add_one]
    simp only [List.getElem?_eq_getElem this, Option.toList]
    rw [List.set_append_right _ _ (by simp; omega)]
    simp only [List.length_take]
    rw [Nat.min_eq_left (by omega)]
    simp
    congr 1
    omega

theorem heap_setCell_at {w : World} {b i : Nat} {cs : List Value} {E : TypeId} (v : Value) (h : w.heap[b]? = some (.cells cs.toArray E (0, 0))) :
    (w.setCell ⟨b, i, none⟩ v).heap[b]? = some (.cells (cs.set i v).toArray E (0, 0)) := by
  simp only [World.setCell, Array.getElem?_modify]
  simp [h]

theorem cell_of_block {w : World} {b : Nat} {cs : List Value} {E : TypeId} {fr : Nat × Nat} (h : w.heap[b]? = some (.cells cs.toArray E fr)) (i : Nat) : w.cell? ⟨b, i, none⟩ = cs[i]? := by
  simp [World.cell?, h]
theorem free_of_block {w : World} {b : Nat} {cs : List Value} {E : TypeId} (h : w.heap[b]? = some (.cells cs.toArray E (0, 0))) (i : Nat) : w.frozen? ⟨b, i, none⟩ = false := by
  simp [World.frozen?, h]
theorem range_of_block {w : World} {b : Nat} {cs : List Value} {E : TypeId} {fr : Nat × Nat} (h : w.heap[b]? = some (.cells cs.toArray E fr)) (off n : Nat) : w.rangeAt b off ((cs.drop off).take n) := by
  intro j v hj
  rw [cell_of_block h]
  rw [List.getElem?_take] at hj
  split at hj
  · simpa using hj
  · cases hj
theorem there_of_block {w : World} {b : Nat} {cs : List Value} {E : TypeId} (h : w.heap[b]? = some (.cells cs.toArray E (0, 0))) (off n : Nat) (hn : off + n ≤ cs.length) : w.there b off n := by
  intro j hj
  refine ⟨?_, free_of_block h _⟩
  rw [cell_of_block h, List.getElem?_eq_getElem (by omega)]; rfl
theorem range_whole {w : World} {b : Nat} {cs : List Value} {E : TypeId} {fr : Nat × Nat} (h : w.heap[b]? = some (.cells cs.toArray E fr)) : w.rangeAt b 0 cs := by
  have := range_of_block h 0 cs.length
  simpa using this
theorem range_same {w w' : World} {b off : Nat} {cs : List Value} (h : w.rangeAt b off cs) (e : w'.heap[b]? = w.heap[b]?) : w'.rangeAt b off cs := fun j v hj => by
  rw [World.cell?_of_block (w := w) (a := ⟨b, off + j, none⟩) e]; exact h j v hj
theorem range_part {w : World} {b off : Nat} {cs : List Value} (h : w.rangeAt b off cs) (i n : Nat) : w.rangeAt b (off + i) ((cs.drop i).take n) := fun j v hj => by
  rw [List.getElem?_take] at hj
  split at hj
  · have := h (i + j) v (by simpa using hj)
    rwa [← Nat.add_assoc] at this
  · cases hj
theorem range_lt {w : World} {b off : Nat} {cs : List Value} (h : w.rangeAt b off cs) (hc : 0 < cs.length) : b < w.heap.size := by
  have := h 0 _ (List.getElem?_eq_getElem hc)
  exact World.block_lt_of_cell? w _ this

/-- A new variable is made and at once written whole. -/
theorem setCells_alloc_whole (w : World) (zs : Array Value) (E : TypeId) (vs : List Value) (hl : zs.size = vs.length) :
    (w.alloc (.cells zs E)).setCells w.heap.size 0 vs = w.alloc (.cells vs.toArray E) := by
  have hh := heap_setCells_same w.heap.size E vs 0 (w.alloc (.cells zs E)) zs.toList (by simpa using heap_alloc_new w (.cells zs E)) (by simp [hl])
  obtain ⟨e1, e2, e3⟩ := setCells_os w.heap.size vs 0 (w.alloc (.cells zs E))
  have e4 : ((w.alloc (.cells zs E)).setCells w.heap.size 0 vs).drawn = w.drawn := by
    have : ∀ (vs : List Value) (off : Nat) (x : World), (x.setCells w.heap.size off vs).drawn = x.drawn := by
      intro vs
      induction vs with
      | nil => intros; rfl
      | cons v r ih => intro off x; rw [World.setCells, ih]; rfl
    rw [this]; rfl
  have e5 : ((w.alloc (.cells zs E)).setCells w.heap.size 0 vs).heap = (w.alloc (.cells vs.toArray E)).heap := by
    apply Array.ext_getElem?
    intro i
    by_cases hi : i = w.heap.size
    · subst hi
      rw [hh, heap_alloc_new]
      simp [hl]
    · rw [heap_setCells_other _ _ _ _ _ hi]
      simp only [World.alloc, Array.getElem?_push, hi, if_false]
  revert e1 e2 e3 e4 e5
  generalize (w.alloc (.cells zs E)).setCells w.heap.size 0 vs = x
  intro e1 e2 e3 e4 e5
  cases x
  simp only at e1 e2 e3 e4 e5
  subst e1 e2 e3 e4 e5
  rfl

theorem hidden {p : Prop} (h : p) : Hid p := h

/-! ### Bytes -/
/-- v is a slice of n elements, whose cells are cs: plain data. (Of an empty one the address says nothing.) -/
def Slc (w : World) (o : Own) (v : Value) (n : Nat) (cs : List Value) : Prop :=
  ((∃ a c, v = .slice a 0 c) ∧ n = 0 ∧ cs = []) ∨ ∃ b off cap, v = .slice (some ⟨b, off, none⟩) n cap ∧ n ≤ cap ∧ cap ≤ maxLen ∧ (o b).1 = 0 ∧ b < w.heap.size ∧ w.rangeAt b off cs
theorem Slc.step {T : Nat → Prop} {w w' : World} {o o' : Own} {v : Value} {n : Nat} {cs : List Value} (h : Slc w o v n cs) (s : Step T w o w' o') (hT : ¬ T 0) : Slc w' o' v n cs := by
  rcases h with h | ⟨b, off, cap, hv, hl, hm, ho, hb, hr⟩
  · exact .inl h
  · exact .inr ⟨b, off, cap, hv, hl, hm, by rw [s.own b hb]; exact ho, Nat.lt_of_lt_of_le hb s.size, range_same hr (s.block b hb (by rw [ho]; exact hT))⟩
theorem slc_form {w : World} {o : Own} {v : Value} {n : Nat} {cs : List Value} (h : Slc w o v n cs) : ∃ a c, v = .slice a n c := by
  rcases h with ⟨⟨a, c, rfl⟩, rfl, _⟩ | ⟨b, off, cap, rfl, _⟩ <;> exact ⟨_, _, rfl⟩
/-- v reads as the bytes l: plain data. -/
def Bytes (w : World) (o : Own) (v : Value) (l : List UInt8) : Prop := Slc w o v l.length (bvs l)
theorem Bytes.cases {w : World} {o : Own} {v : Value} {l : List UInt8} (h : Bytes w o v l) : ((∃ a c, v = .slice a 0 c) ∧ l = []) ∨
    ∃ b off cap, v = .slice (some ⟨b, off, none⟩) l.length cap ∧ l.length ≤ cap ∧ cap ≤ maxLen ∧ (o b).1 = 0 ∧ b < w.heap.size ∧ w.rangeAt b off (bvs l) := by
  rcases h with ⟨h1, h2, _⟩ | h
  · exact .inl ⟨h1, List.eq_nil_of_length_eq_zero h2⟩
  · exact .inr h
theorem Bytes.nil (w : World) (o : Own) : Bytes w o (.slice none 0 0) [] := .inl ⟨⟨_, _, rfl⟩, rfl, rfl⟩
theorem Bytes.step {T : Nat → Prop} {w w' : World} {o o' : Own} {v : Value} {l : List UInt8} (h : Bytes w o v l) (s : Step T w o w' o') (hT : ¬ T 0) : Bytes w' o' v l := Slc.step h s hT

/-! ### Contracts -/
/-- The call returns v, nothing but T's blocks has turned, and Q. -/
def Ret (T : Nat → Prop) (w : World) (o : Own) (Q : Value → World → Own → Prop) : Ending → World → Prop :=
  fun e w' => ∃ v o', e = .returned v ∧ Step T w o w' o' ∧ Q v w' o'

section
variable {P : Program} {ops : Array Oper} {rest : List Oper} {op : Oper} {a : Act} {w : World} {Q : Exit → Act → World → Prop}

theorem run_alloc_zero (w : World) (ty : TypeId) (zs : Array Value) (hz : ((P.info? ty).bind (·.zero)).map (·.cells) = some zs) :
    (Instr.alloc ty true (.tuple #[])).run P w = .ok (.pointer (some ⟨w.heap.size, 0, none⟩)) (w.alloc (.cells zs ty)) := by
  cases hi : P.info? ty with
  | none => simp [hi] at hz
  | some i =>
    cases hq : i.zero with
    | none => simp [hi, hq] at hz
    | some z =>
      simp only [hi, hq, Option.bind_some, Option.map_some, Option.some.injEq] at hz
      subst hz
      simp [Instr.alloc, zeroValue, typeInfo, hi, hq, newVar, newRow]

/-- 'var x T', T of many cells: its zeros behind a name. -/
theorem wpList_alloc_zero (hgd : op.guard = none) (ty : TypeId) (ho : op.op = .alloc ty) (zs : Array Value) (hz : ((P.info? ty).bind (·.zero)).map (·.cells) = some zs)
    (h : wpList P ops Q rest (a.put op.dst (.pointer (some ⟨w.heap.size, 0, none⟩))) (w.alloc (.cells zs ty))) : wpList P ops Q (op :: rest) a w :=
  wpList_plain hgd fun _ hK => by
    unfold Oper.wp execOp
    simp only [ho, Sem.run_bind, run_alloc_zero w ty zs hz, Result.andThen_ok, Sem.run_pure]
    exact hK _ _ h
end

/-! ### make -/
theorem toList_madeCells (zs : Array Value) : ∀ n : Nat, (madeCells zs (n * zs.size)).toList = (List.replicate n zs.toList).flatten
  | 0 => by simp [madeCells]
  | n + 1 => by
    have ih := toList_madeCells zs n
    rw [List.replicate_succ', List.flatten_append, ← ih]
    apply List.ext_getElem
    · simp [madeCells, Nat.add_mul]
    · intro i h1 h2
      simp only [madeCells, Array.length_toList, Array.size_map, Array.size_range] at h1
      simp only [madeCells, Array.getElem_toList, Array.getElem_map, Array.getElem_range, List.getElem_append, Array.length_toList, Array.size_map, Array.size_range]
      split
      · rfl
      · rename_i hlt
        have hz : i - n * zs.size < zs.size := by rw [Nat.add_mul] at h1; omega
        have hm : i % zs.size = i - n * zs.size := by
          have e : i = (i - n * zs.size) + n * zs.size := by omega
          have := Nat.add_mul_mod_self_right (i - n * zs.size) n zs.size
          rw [← e] at this
          rw [this, Nat.mod_eq_of_lt hz]
        simp [hm, hz]

theorem run_make_zero {P : Program} (w : World) (t e : TypeId) (zs : List Value) (size bytes : Nat) (ht : P.underlying t = some (.slice e))
    (hi : (P.info? e).map (fun i => (i.zero.map (fun z => z.cells.toList), i.size, i.bytes)) = some (some zs, size, bytes)) (hzs : zs.length = size) (n : Nat) (hb : bytes * n ≤ 281474976710656) (h63 : n ≤ 9223372036854775807) (k kc : IntKind) :
    (Instr.makeSlice t (.int k (n : Int)) (.int kc (n : Int))).run P w = .ok (.slice (some ⟨w.heap.size, 0, none⟩) n n) (w.alloc (.cells (List.replicate n zs).flatten.toArray e)) := by
  cases hq : P.info? e with
  | none => simp [hq] at hi
  | some i =>
    cases hz : i.zero with
    | none => simp [hq, hz] at hi
    | some z =>
      simp only [hq, hz, Option.map_some, Option.some.injEq, Prod.mk.injEq] at hi
      obtain ⟨e1, e2, e3⟩ := hi
      have hb' : (i.bytes : Int) * (n : Int) ≤ 281474976710656 := by
        have h : ((i.bytes * n : Nat) : Int) ≤ 281474976710656 := by rw [e3]; omega
        rwa [Int.natCast_mul] at h
      have hr := run_make (P := P) w t e i z ht hq hz k kc n n (by omega) (Int.le_refl _) hb' (by omega)
      rw [hr]
      have hsz : z.cells.size = i.size := by rw [e2, ← hzs, ← e1]; simp
      have := toList_madeCells z.cells n
      rw [e1, hsz] at this
      simp only [Int.toNat_natCast]
      rw [← this]

#print axioms setCells_alloc_whole
end Go.Proofs.YtfgggkheadfiaaaR
