/- Laws on rows: bytes appended to a row, a record appended to a log's records. -/
import Derived.Test.YtfgggkheadfiaaaRLog15
namespace Go.Proofs.YtfgggkheadfiaaaR
open Go Go.RowKit

theorem append_any (W : World) {base : Nat} (hbase : base ≤ W.heap.size) {v : Value} {n : Nat} {xs : List UInt8} (hown : W.ownsRow base 5 1 v n (bvs xs)) {o : Own} {yv : Value} {l : List UInt8} (hy : Bytes W o yv l) (h63 : n + l.length ≤ 1000000000) :
    ∃ v' w', (Builtin.append_ #[28, 28] 28 #[v, yv]).run Try.prog W = .ok v' w' ∧ w'.ownsRow base 5 1 v' (n + l.length) (bvs (xs ++ l)) ∧ W.grownBy w' v.ownBlock := by
  have hself : W.grownBy W v.ownBlock := ⟨rfl, rfl, rfl, Nat.le_refl _, fun _ _ _ => rfl⟩
  obtain ⟨va, vc, rfl⟩ := own_form hown
  have hcap : n ≤ vc := by
    rcases hown.2 with ⟨h1, h2⟩ | ⟨g, cap, cur, h1, _, _, h2, h3, _⟩
    · simp only [Value.slice.injEq] at h1; omega
    · simp only [Value.slice.injEq] at h1; omega
  rcases hy.cases with ⟨⟨a, c, rfl⟩, rfl⟩ | ⟨b, off, cap, rfl, hc, hm, ho, hb, hr⟩
  · exact ⟨_, W, run_append_none (P := Try.prog) W 28 28 5 1 Try.underlying28 (by kernel_rfl) va a n vc c hcap (by omega), by simpa using hown, hself⟩
  · by_cases h0 : l.length = 0
    · have hl : l = [] := List.eq_nil_of_length_eq_zero h0
      subst hl
      exact ⟨_, W, run_append_none (P := Try.prog) W 28 28 5 1 Try.underlying28 (by kernel_rfl) va (some ⟨b, off, none⟩) n vc cap hcap (by omega), by simpa using hown, hself⟩
    · obtain ⟨g, cap', w', h1, h2, h3, _⟩ := run_append_bytes W hbase _ n xs hown b off l.length cap l rfl hr (by omega) h63
      exact ⟨_, w', h1, h2, h3⟩

/-- A record is appended to a log's records, and its end is set. -/
theorem LogAt.append {W : World} {o : Own} {L p pd : Nat} {m : LogM} (hl : LogAt W o L p pd m) (hL : L ≠ 0) {nb : Nat} {x : Value} {r : List UInt8} (hnb : W.heap[nb]? = some (.cells #[x] 28 (0, 0))) (hx : Bytes W o x r) (hxm : Mine W o x) (k : Nat) (hwf : ({ m with records := m.records ++ [r], end' := k } : LogM).wf) :
    ∃ rv v' w3 o3, W.cell? ⟨p, 6, none⟩ = some rv ∧ (∃ a c, rv = .slice a m.records.length c) ∧ (Builtin.append_ #[83, 83] 83 #[rv, .slice (some ⟨nb, 0, none⟩) 1 1]).run Try.prog W = .ok v' w3 ∧ (∃ a c, v' = .slice a (m.records.length + 1) c) ∧
      Step (Only L) W o w3 o3 ∧ w3.heap[p]? = W.heap[p]? ∧ Step (Only L) W o ((w3.setCell ⟨p, 6, none⟩ v').setCell ⟨p, 5, none⟩ (.int .i64 (k : Int))) o3 ∧
      LogAt ((w3.setCell ⟨p, 6, none⟩ v').setCell ⟨p, 5, none⟩ (.int .i64 (k : Int))) o3 L p pd { m with records := m.records ++ [r], end' := k } := by
  have hw := hl.wf
  have hN0 : ¬ Only L 0 := fun h => hL h.symm
  obtain ⟨rv, vs, hp, hro, hv, op, orr, -⟩ := hl
  have hc6 : W.cell? ⟨p, 6, none⟩ = some rv := cell_of_block hp 6
  obtain ⟨xa, xc, rfl⟩ := slc_form hx
  obtain ⟨_, g2, g3, _, g5, g6, _⟩ := hw
  obtain ⟨g, cap, w3, hrun, hown3, hgrow, hat, hlt3⟩ := run_append_slices W (Nat.zero_le _) _ _ _ hro nb _ rfl (range_whole (cs := [.slice xa r.length xc]) hnb) (by omega)
  have hplt := lt_of_block hp
  have hgt : o g = (L, 1) ∨ W.heap.size ≤ g := by
    rcases hat with hat | hat
    · exact .inl (orr g hat)
    · exact .inr (by omega)
  have hs3 : Step (Only L) W o w3 (tagAt o g (L, 1)) := (Step.refl (Only L) W o).grown hgrow (fun k hk => .inl (by rw [orr k hk]; rfl)) g (L, 1) hgt
  have hgp : p ≠ g := by
    rintro rfl
    rcases hgt with h1 | h1
    · rw [op] at h1; simp at h1
    · omega
  have hp3 : w3.heap[p]? = W.heap[p]? := hgrow.block p hplt (by intro hx; have := orr p hx.symm; rw [op] at this; simp at this)
  have hvs3 := (hv.snoc hx hxm).step hs3 hN0
  have op3 : tagAt o g (L, 1) p = (L, 0) := by rw [tagAt_other _ _ hgp]; exact op
  have hs45 : Step (Only L) w3 (tagAt o g (L, 1)) ((w3.setCell ⟨p, 6, none⟩ (.slice (some ⟨g, 0, none⟩) (m.records.length + 1) cap)).setCell ⟨p, 5, none⟩ (.int .i64 (k : Int))) (tagAt o g (L, 1)) :=
    ((Step.refl (Only L) w3 (tagAt o g (L, 1))).setCell (a := ⟨p, 6, none⟩) _ (.inl (by show (tagAt o g (L, 1) p).1 = L; rw [op3]))).setCell (a := ⟨p, 5, none⟩) _ (.inl (by show (tagAt o g (L, 1) p).1 = L; rw [op3]))
  refine ⟨rv, _, w3, tagAt o g (L, 1), hc6, own_form hro, hrun, ⟨_, _, rfl⟩, hs3, hp3, hs3.trans hs45, ?_⟩
  refine ⟨.slice (some ⟨g, 0, none⟩) (m.records.length + 1) cap, vs ++ [.slice xa r.length xc], ?_, ?_, hvs3.step hs45 hN0, op3, ?_, hwf⟩
  · have := heap_setCell_at (i := 5) (.int .i64 (k : Int)) (heap_setCell_at (i := 6) (.slice (some ⟨g, 0, none⟩) (m.records.length + 1) cap) (hp3.trans hp))
    exact this
  · have : (m.records ++ [r]).length = m.records.length + 1 := by simp
    show World.ownsRow _ 0 28 1 _ (m.records ++ [r]).length _
    rw [this]
    refine ownsRow_same hown3 fun k hk => ?_
    simp only [Value.ownBlock, Option.some.injEq] at hk
    subst hk
    rw [Below.heap_setCell _ _ _ _ (Ne.symm hgp), Below.heap_setCell _ _ _ _ (Ne.symm hgp)]
  · intro k hk
    simp only [Value.ownBlock, Option.some.injEq] at hk
    subst hk; exact tagAt_same _ _ _
end Go.Proofs.YtfgggkheadfiaaaR
