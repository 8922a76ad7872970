/- What a law's argument reads as is laid out: slices of numbers, of structs. Over any program. -/
import Derived.Test.YtfgggkheadfiaaaRFin
import Derived.Deep.Slices
namespace Go.Proofs.YtfgggkheadfiaaaR
open Go Go.RowKit Go.Deep

theorem list_choose {α : Type} (R : Nat → α → Prop) : ∀ n : Nat, (∀ i, i < n → ∃ x, R i x) → ∃ l : List α, l.length = n ∧ ∀ i (h : i < l.length), R i l[i]
  | 0, _ => ⟨[], rfl, fun i h => by simp at h⟩
  | n + 1, hx => by
    obtain ⟨l, hl, hr⟩ := list_choose R n (fun i hi => hx i (by omega))
    obtain ⟨x, hxx⟩ := hx n (by omega)
    refine ⟨l ++ [x], by simp [hl], fun i h => ?_⟩
    by_cases hi : i < l.length
    · rw [List.getElem_append_left hi]; exact hr i hi
    · have : i = n := by simp at h; omega
      subst this
      rw [List.getElem_append_right (by omega)]
      simpa [hl] using hxx

section
variable {H : Type} {enc : TypeId × Value → H} {P : Program} {W : World}

theorem read_slice {t e : TypeId} {fuel : Nat} {v : Value} {x : DataW H × List MemPlace} (ht : P.underlying t = some (.slice e)) (hpos : 0 < P.cellsOf e)
    (h : DataW.trod enc P W 0 (fun _ => true) true fuel t [v] = some x) :
    (∃ a c, v = .slice a 0 c) ∨ ∃ b off len cap, v = .slice (some ⟨b, off, none⟩) len cap ∧ 0 < len ∧ len ≤ cap ∧ cap ≤ maxLen ∧ b < W.heap.size ∧
      ∀ i, i < cap → ∃ cs', cs'.length = P.cellsOf e ∧ W.rangeAt b (off + i * P.cellsOf e) cs' ∧ ∃ n y, DataW.trod enc P W 0 (fun _ => true) true n e cs' = some y := by
  rcases open_slice ht h with ⟨h0, _⟩ | ⟨a, len, cap, m, n, D, Pl, h0, _, hlc, hcm, hm, _, hel⟩
  · simp only [List.cons.injEq, and_true] at h0
    exact .inl ⟨_, _, h0⟩
  · simp only [List.cons.injEq, and_true] at h0
    simp only [if_true] at hm
    subst hm
    by_cases hz : len = 0
    · subst hz; exact .inl ⟨_, _, h0⟩
    · have hc0 : 0 < m := by omega
      have hcell : ∀ i, i < m → ∃ cs', cs'.length = P.cellsOf e ∧ (∀ j, j < P.cellsOf e → W.cell? ((a.add (i * P.cellsOf e)).add j) = cs'[j]?) ∧ ∃ n y, DataW.trod enc P W 0 (fun _ => true) true n e cs' = some y := by
        intro i hi
        obtain ⟨cs', h1, h2⟩ := hel i hi
        obtain ⟨_, h3, h4⟩ := World.cells?_some h1
        exact ⟨cs', h3, h4, _, _, h2⟩
      obtain ⟨cs0, h3, h4, _⟩ := hcell 0 hc0
      have h5 := h4 0 hpos
      have ha0 : ((a.add (0 * P.cellsOf e)).add 0) = a := by simp [Addr.add]
      rw [ha0, List.getElem?_eq_getElem (by omega)] at h5
      have hsp : a.spot = none := by
        cases hs : a.spot with
        | none => rfl
        | some s =>
          exfalso
          unfold World.cell? at h5
          cases hh : W.heap[a.block]? with
          | none => simp [hh] at h5
          | some ob => cases ob <;> simp [hh, hs] at h5
      have hblk := World.block_lt_of_cell? W _ h5
      obtain ⟨b, off, sp⟩ := a
      simp only at hsp hblk
      subst hsp
      refine .inr ⟨b, off, len, m, h0, by omega, hlc, hcm, hblk, fun i hi => ?_⟩
      obtain ⟨cs', k1, k2, k3⟩ := hcell i hi
      refine ⟨cs', k1, fun j w hj => ?_, k3⟩
      have hj' : j < P.cellsOf e := by
        rw [← k1]; exact (List.getElem?_eq_some_iff.1 hj).1
      have := k2 j hj'
      rw [Addr.add_mid, Addr.add_mid, hj] at this
      exact this

theorem read_nums {t e : TypeId} {k : IntKind} {fuel : Nat} {v : Value} {x : DataW H × List MemPlace} (ht : P.underlying t = some (.slice e)) (he : P.underlying e = some (.int k)) (hc : P.cellsOf e = 1)
    (h : DataW.trod enc P W 0 (fun _ => true) true fuel t [v] = some x) :
    ∃ l : List Int, Slc W (fun _ => (0, 0)) v l.length (l.map (Value.int k)) ∧ ∀ a ∈ l, (Lit.int k a).wf = true := by
  rcases read_slice ht (by omega) h with ⟨a, c, rfl⟩ | ⟨b, off, len, cap, rfl, h0, hlc, hcm, hb, hel⟩
  · exact ⟨[], .inl ⟨⟨a, c, rfl⟩, rfl, rfl⟩, by simp⟩
  · obtain ⟨l, hl, hr⟩ := list_choose (fun i (n : Int) => W.cell? ⟨b, off + i, none⟩ = some (.int k n) ∧ (Lit.int k n).wf = true) len (fun i hi => by
      obtain ⟨cs', k1, k2, n, y, k3⟩ := hel i (by omega)
      obtain ⟨a, rfl, _, hw⟩ := DataW.trod_int he k3
      refine ⟨a, ?_, hw⟩
      have := k2 0 _ rfl
      rwa [hc, Nat.mul_one, Nat.add_zero] at this)
    refine ⟨l, .inr ⟨b, off, cap, by rw [hl], by omega, hcm, rfl, hb, fun j w hj => ?_⟩, fun a ha => ?_⟩
    · rw [List.getElem?_map] at hj
      cases hjl : l[j]? with
      | none => rw [hjl] at hj; cases hj
      | some a =>
        obtain ⟨hlt, hja⟩ := List.getElem?_eq_some_iff.1 hjl
        rw [hjl] at hj
        simp only [Option.map_some, Option.some.injEq] at hj
        rw [← hj, ← hja]
        exact (hr j hlt).1
    · obtain ⟨i, hi, rfl⟩ := List.mem_iff_getElem.1 ha
      exact (hr i hi).2
end
end Go.Proofs.YtfgggkheadfiaaaR
