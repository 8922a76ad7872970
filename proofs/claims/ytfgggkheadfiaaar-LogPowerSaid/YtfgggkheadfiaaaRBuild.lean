/- Laws on values of many cells that are put together: a struct of two parts, a slice literal of one element, append of one element, copy. Over any program; no conditions. -/
import Derived.Test.YtfgggkheadfiaaaRBase
namespace Go.Proofs.YtfgggkheadfiaaaR
open Go Go.RowKit

theorem fold_set (off : Nat) : ∀ (vs : List Value) (j : Nat) (cs : List Value), off + j + vs.length ≤ cs.length →
    (((vs.zipIdx j).foldl (fun (cs : Array Value) x => cs.setIfInBounds (off + x.2) x.1) cs.toArray) : Array Value) = (cs.take (off + j) ++ vs ++ cs.drop (off + j + vs.length)).toArray
  | [], j, cs, _ => by simp
  | v :: r, j, cs, h => by
    simp only [List.zipIdx_cons, List.foldl_cons, List.setIfInBounds_toArray]
    rw [fold_set off r (j + 1) _ (by simp at h ⊢; omega)]
    simp only [List.length_cons] at h ⊢
    congr 1
    rw [List.take_set, List.drop_set, if_pos (by omega)]
    rw [show off + (j + 1) = (off + j) + 1 from by omega, List.take_add_one]
    have hlt : off + j < cs.length := by omega
    simp only [List.getElem?_eq_getElem hlt, Option.toList]
    rw [List.set_append_right _ _ (by simp; omega)]
    simp only [List.length_take]
    rw [Nat.min_eq_left (by omega)]
    simp
    congr 1
    omega

theorem fold_cells (off : Nat) (vs cs : List Value) (h : off + vs.length ≤ cs.length) :
    (vs.toArray.zipIdx.foldl (fun (cs : Array Value) (x : Value × Nat) => cs.setIfInBounds (off + x.2) x.1) cs.toArray : Array Value) = (cs.take off ++ vs ++ cs.drop (off + vs.length)).toArray := by
  have := fold_set off vs 0 cs (by simpa using h)
  simp only [Nat.add_zero] at this
  rw [← this, ← Array.foldl_toList]
  congr 1
  simp

section
variable {P : Program}

/-- 'T{a, b}': both fields of a struct of two are told. -/
theorem run_build_two (w : World) (t : TypeId) (f0 f1 : Field) (zs : List Value) (v0 v1 : Value) (c0 c1 : List Value)
    (hu : P.underlying t = some (.struct #[f0, f1])) (hz : ((P.info? t).bind (·.zero)).map (fun z => z.cells.toList) = some zs)
    (h0 : f0.offset = 0) (h1 : f1.offset = c0.length) (s0 : (P.info? f0.type).map (·.size) = some c0.length) (s1 : (P.info? f1.type).map (·.size) = some c1.length)
    (hl : zs.length = c0.length + c1.length) (e0 : v0.cells = c0.toArray) (e1 : v1.cells = c1.toArray) :
    (Instr.build t #[(0, v0), (1, v1)]).run P w = .ok (.agg (c0 ++ c1).toArray) w := by
  cases hi : P.info? t with
  | none => simp [hi] at hz
  | some i =>
    cases hq : i.zero with
    | none => simp [hi, hq] at hz
    | some z =>
      cases hi0 : P.info? f0.type with
      | none => simp [hi0] at s0
      | some i0 =>
        cases hi1 : P.info? f1.type with
        | none => simp [hi1] at s1
        | some i1 =>
          simp only [hi, hq, Option.bind_some, Option.map_some, Option.some.injEq] at hz
          simp only [hi0, Option.map_some, Option.some.injEq] at s0
          simp only [hi1, Option.map_some, Option.some.injEq] at s1
          have hzc : z.cells = zs.toArray := by rw [← hz]
          have F0 := fold_cells 0 c0 zs (by omega)
          have F1 := fold_cells c0.length c1 (c0 ++ zs.drop c0.length) (by simp; omega)
          have F0' : (zs.take 0 ++ c0 ++ zs.drop (0 + c0.length)) = c0 ++ zs.drop c0.length := by simp
          rw [F0'] at F0
          have F1' : ((c0 ++ zs.drop c0.length).take c0.length ++ c1 ++ (c0 ++ zs.drop c0.length).drop (c0.length + c1.length)) = c0 ++ c1 := by
            rw [List.take_left, List.drop_eq_nil_of_le (by simp; omega)]; simp
          rw [F1'] at F1
          have hp : ∀ x : World, (program).run P x = .ok P x := fun _ => rfl
          simp only [Instr.build, zeroValue, typeInfo, sizeOf, Sem.run_bind, hp, Result.andThen_ok, hi, hq, Sem.run_pure, run_underlying hu, hzc]
          simp only [List.mapM_toArray, List.mapM_cons, List.mapM_nil, Sem.run_bind, Sem.run_map, hp, Result.andThen_ok, hi0, hi1, Sem.run_pure, s0, s1, h0, h1]
          simp only [Instr.fill, e0, e1, List.size_toArray]
          simp
          rw [if_neg (by omega)]
          simp at F0 F1
          rw [F0]
          simp
          rw [if_neg (by omega), F1]
          simp

/-- '[]T{x}': one element, as 'append(xs, x)' lays it. -/
theorem run_buildSlice_one (w : World) (t e : TypeId) (zs : List Value) (v : Value) (c : List Value) (hu : P.underlying t = some (.slice e))
    (hz : (P.info? e).map (fun i => (i.zero.map (fun z => z.cells.toList), i.size)) = some (some zs, c.length)) (hl : zs.length = c.length) (hc : 0 < c.length) (hc2 : c.length ≤ 16777216) (ev : v.cells = c.toArray) :
    (Instr.buildSlice t 1 #[(0, v)]).run P w = .ok (.slice (some ⟨w.heap.size, 0, none⟩) 1 1) (w.alloc (.cells c.toArray e)) := by
  cases hi : P.info? e with
  | none => simp [hi] at hz
  | some i =>
    cases hq : i.zero with
    | none => simp [hi, hq] at hz
    | some z =>
      simp only [hi, hq, Option.map_some, Option.some.injEq, Prod.mk.injEq] at hz
      obtain ⟨hz, hs⟩ := hz
      have hzc : z.cells = zs.toArray := by rw [← hz]
      have hp : ∀ x : World, (program).run P x = .ok P x := fun _ => rfl
      have hm : (Array.map (fun x => zs.toArray[x % zs.toArray.size]!) (Array.range (1 * c.length))) = zs.toArray := by
        have := toList_madeCells zs.toArray 1
        simp only [madeCells, List.size_toArray, hl] at this
        apply Array.toList_inj.1
        simpa [hl] using this
      have F0 := fold_cells 0 c zs (by omega)
      have F0' : (zs.take 0 ++ c ++ zs.drop (0 + c.length)) = c := by simp; omega
      rw [F0'] at F0
      simp only [Instr.buildSlice, sizeOf, zeroValue, typeInfo, Sem.run_bind, hp, Result.andThen_ok, run_underlying hu, hi, Sem.run_pure, hs]
      rw [if_neg (by omega), if_neg (by omega)]
      simp only [Sem.run_bind, Sem.run_pure, hp, Result.andThen_ok, hi, hq, hzc, hm]
      simp only [Instr.fill, ev, List.size_toArray]
      simp
      rw [if_neg (by omega)]
      simp at F0
      rw [F0]
      simp [newRow]

theorem info_of {e : TypeId} {zs : List Value} {size bytes : Nat} (hi : (P.info? e).map (fun i => (i.zero.map (fun z => z.cells.toList), i.size, i.bytes)) = some (some zs, size, bytes)) :
    ∃ i z, P.info? e = some i ∧ i.zero = some z ∧ i.size = size ∧ i.bytes = bytes ∧ z.cells = zs.toArray := by
  cases hq : P.info? e with
  | none => simp [hq] at hi
  | some i =>
    cases hz : i.zero with
    | none => simp [hq, hz] at hi
    | some z =>
      simp only [hq, hz, Option.map_some, Option.some.injEq, Prod.mk.injEq] at hi
      obtain ⟨e1, e2, e3⟩ := hi
      exact ⟨i, z, rfl, hz, e2, e3, by rw [← e1]⟩

/-- append onto a row that is owned: what the new value owns, and where it lies. -/
theorem run_append_row (W : World) (t ty e : TypeId) {base : Nat} {zs : List Value} {size bytes : Nat} (ht : P.underlying t = some (.slice e))
    (hi : (P.info? e).map (fun i => (i.zero.map (fun z => z.cells.toList), i.size, i.bytes)) = some (some zs, size, bytes)) (hzs : zs.length = size) (hsz : 0 < size) (hbase : base ≤ W.heap.size)
    (v : Value) (n : Nat) (xs : List Value) (hown : W.ownsRow base e size v n xs) (b off m c : Nat) (news : List Value) (hl : news.length = m * size) (hr : W.rangeAt b off news) (h1 : ∀ u ∈ news, u.oneCell' = true)
    (hm : 0 < m) (h63 : n + m ≤ 9223372036854775807) (hbytes : (n + m) * bytes ≤ 140737488355328) :
    ∃ g cap w', (Builtin.append_ #[t, t] ty #[v, .slice (some ⟨b, off, none⟩) m c]).run P W = .ok (.slice (some ⟨g, 0, none⟩) (n + m) cap) w' ∧
      w'.ownsRow base e size (.slice (some ⟨g, 0, none⟩) (n + m) cap) (n + m) (xs ++ news) ∧ W.grownBy w' v.ownBlock ∧ (v.ownBlock = some g ∨ g = W.heap.size) ∧ g < w'.heap.size := by
  obtain ⟨i, z, hq, hz, e2, e3, e4⟩ := info_of hi
  exact run_append_lies (P := P) W t ty base e i z size bytes ht hq hz e2 e3 (by rw [e4]; simpa using hzs) hsz v n xs hown ⟨b, off, none⟩ m c news hl
    (fun j u hu => by rw [Addr.add_mid]; exact hr j u hu) h1 hm (by simp only [maxLen]; exact h63) hbytes hbase W.heap.size rfl
end

/-- Behind an append: the row's own block, old or new, is the object's. -/
theorem Step.grown {T : Nat → Prop} {w W w' : World} {o o1 : Own} (h : Step T w o W o1) {row : Option Nat} (hg : W.grownBy w' row) (hrow : ∀ k, row = some k → T (o1 k).1 ∨ w.heap.size ≤ k) (g : Nat) (t : Nat × Nat)
    (hgk : o1 g = t ∨ W.heap.size ≤ g) : Step T w o w' (tagAt o1 g t) := by
  refine ⟨hg.os.trans h.os, hg.tape.trans h.tape, hg.output.trans h.output, Nat.le_trans h.size hg.size, fun k hk => ?_, fun k hk ht => ?_⟩
  · have hk' := Nat.lt_of_lt_of_le hk h.size
    by_cases hkg : k = g
    · subst hkg
      rcases hgk with hgk | hgk
      · rw [tagAt_same, ← hgk]; exact h.own k hk
      · omega
    · rw [tagAt_other _ _ hkg]; exact h.own k hk
  · rw [hg.block k (Nat.lt_of_lt_of_le hk h.size) ?_]
    · exact h.block k hk ht
    · intro hx
      rcases hrow k hx.symm with h1 | h1
      · rw [h.own k hk] at h1; exact ht h1
      · omega
theorem tagAt_eq {o : Own} {g : Nat} {t : Nat × Nat} (h : o g = t) : ∀ k, tagAt o g t k = o k := by
  intro k
  by_cases hk : k = g
  · subst hk; rw [tagAt_same, h]
  · rw [tagAt_other _ _ hk]
end Go.Proofs.YtfgggkheadfiaaaR
