/- What the walk of LogPower needs besides: appending to an empty row, reading new leftovers. -/
import Derived.Test.YtfgggkheadfiaaaRLaw08g
import Derived.Test.YtfgggkheadfiaaaRLaw08c
import Derived.Deep.AppendSrc
import Derived.Test.YtfgggkheadfiaaaRMid2
namespace Go.Proofs.YtfgggkheadfiaaaR
open Go Go.RowKit

/-- append onto a row of length and capacity 0: a new row. -/
theorem append_empty {P : Program} (W : World) (t ty e : TypeId) {zs : List Value} {size bytes : Nat} (ht : P.underlying t = some (.slice e))
    (hi : (P.info? e).map (fun i => (i.zero.map (fun z => z.cells.toList), i.size, i.bytes)) = some (some zs, size, bytes)) (hzs : zs.length = size)
    (a0 : Option Addr) (b off m c : Nat) (news : List Value) (hl : news.length = m * size) (hr : W.rangeAt b off news) (h1 : ∀ u ∈ news, u.oneCell' = true)
    (hm : 0 < m) (h63 : m ≤ 1000000000) (hbytes : m * bytes ≤ 140737488355328) :
    ∃ cap w', (Builtin.append_ #[t, t] ty #[.slice a0 0 0, .slice (some ⟨b, off, none⟩) m c]).run P W = .ok (.slice (some ⟨W.heap.size, 0, none⟩) m cap) w' ∧
      w'.ownsRow W.heap.size e size (.slice (some ⟨W.heap.size, 0, none⟩) m cap) m news ∧ Below W.heap.size W w' := by
  obtain ⟨i, z, hq, hz, e2, e3, e4⟩ := info_of hi
  subst e2 e3
  have hsrc : Src P i.size t (.slice (some ⟨b, off, none⟩) m c) m news W := Src.ofSlice W ht ⟨b, off, none⟩ m c news hl (fun j u hu => by rw [Addr.add_mid]; exact hr j u hu) h1
  have hold : (Builtin.firstCells i.size 0 (.slice a0 0 0)).run P W.drew = .ok #[] W.drew := by
    cases a0 with
    | none => exact run_firstCells_none W.drew i.size 0 0 0
    | some x => exact run_firstCells_some W.drew i.size 0 x 0 0 [] (by simp) (fun j v hj => by simp at hj)
  have hnext : Builtin.nextslicecap (0 + m) 0 = m := by unfold Builtin.nextslicecap; simp; omega
  have hrun := run_append_grow_src (P := P) W t t ty e i z ht hq hz a0 0 0 [] hold (.slice (some ⟨b, off, none⟩) m c) m news hsrc (by omega) (by omega) (by rw [hnext]; omega)
  rw [Nat.zero_add] at hrun
  refine ⟨_, _, hrun, ⟨hl, .inr ⟨W.heap.size, _, _, rfl, Nat.le_refl _, heap_alloc_new W.drew _, grownCap_ge _ _ _ _, grownCap_le_maxLen _ _ _ _ (by simp only [maxLen]; omega), ?_, ?_⟩⟩, ?_⟩
  · have hge := grownCap_ge W m 0 e
    simp only [Array.size_append, List.size_toArray, size_zeroCells, List.nil_append, hl]
    rw [e4]
    simp only [List.size_toArray, hzs, ← Nat.add_mul]
    congr 1; omega
  · simp only [List.nil_append, Array.toList_append, List.toList_toArray]
    rw [List.take_left' hl]
  · exact ⟨rfl, rfl, rfl, by simp, fun k hk => Below.heap_alloc _ _ _ (by simpa using hk)⟩
theorem len4' {α : Type} {l : List α} (h : l.length = 4) : ∃ a b c d, l = [a, b, c, d] := len4 h
theorem Tries8.range {w : World} {o : Own} {b off n c : Nat} {l : List Try8} (h : Tries8 w o (.slice (some ⟨b, off, none⟩) n c) l) (i : Nat) (hi : i < l.length) : w.rangeAt b (off + i * 4) l[i].cells := by
  rcases h with ⟨_, rfl⟩ | ⟨b, off, cap, hv, hl, hm, ho, hb, hr⟩
  · simp at hi
  · simp only [Value.slice.injEq, Option.some.injEq, Addr.mk.injEq] at hv
    obtain ⟨⟨rfl, rfl, -⟩, rfl, rfl⟩ := hv
    exact (hr i hi).1
theorem load80 {w : World} {b off : Nat} {t : Try8} (hr : w.rangeAt b off t.cells) : (Instr.loadAt 80 (.pointer (some ⟨b, off, none⟩))).run Try.prog w = .ok (.agg t.cells.toArray) w := by
  simp only [Instr.loadAt, Instr.sureAddr, Sem.run_bind, Sem.run_pure, Result.andThen_ok]
  exact run_loadVar_mid w b off 80 t.cells _ hr Try.underlying80 rfl (by kernel_rfl)
theorem zc80 : ((Try.prog.info? 80).bind (·.zero)).map (·.cells) = some #[.bool false, .int .u8 0, .int .u16 0, .int .u8 0] := by kernel_rfl
theorem length_tvs (ls : List (List UInt8)) : (tvs ls).length = ls.length := by simp [tvs]
theorem one_tvs (ls : List (List UInt8)) : ∀ u ∈ tvs ls, u.oneCell' = true := by
  intro u hu
  simp only [tvs, List.mem_map] at hu
  obtain ⟨x, _, rfl⟩ := hu; rfl
theorem Step.ofBelow {w w' : World} {o : Own} (h : Below w.heap.size w w') (t : Nat × Nat) : Step Nobody w o w' (extT w o t) := ⟨h.os, h.tape, h.output, h.size, fun _ hk => if_pos hk, fun k hk _ => h.block k hk⟩
theorem ownsRow_low {w : World} {b b' e size n : Nat} {v : Value} {xs : List Value} (h : w.ownsRow b e size v n xs) (hb : b' ≤ b) : w.ownsRow b' e size v n xs := by
  refine ⟨h.1, ?_⟩
  rcases h.2 with hn | ⟨g, cap, cur, rfl, h1, rest⟩
  · exact .inl hn
  · exact .inr ⟨g, cap, cur, rfl, Nat.le_trans hb h1, rest⟩
theorem Below.mono {B B' : Nat} {w w' : World} (h : Below B w w') (hB : B' ≤ B) : Below B' w w' := ⟨h.os, h.tape, h.output, h.size, fun k hk => h.block k (Nat.lt_of_lt_of_le hk hB)⟩
theorem Below.trans {B : Nat} {w w1 w2 : World} (h : Below B w w1) (g : Below B w1 w2) : Below B w w2 := ⟨g.os.trans h.os, g.tape.trans h.tape, g.output.trans h.output, Nat.le_trans h.size g.size, fun k hk => (g.block k hk).trans (h.block k hk)⟩
namespace LogM
theorem Good.fuse {K : Nat} {l : LogM} {d : DiskM} (h : Good K (l, d)) (n : Int) (hn : n ≤ 9223372036854775807) : Good K (l, d.fuse n) := by
  have hd : d.dead = false := h.dd
  have e : d.fuse n = { d with left := max (-1) n } := by unfold DiskM.fuse; rw [hd]; rfl
  obtain ⟨h1, h2, ⟨h3, h4, h5, h6⟩, h7⟩ := h
  rw [e]
  refine ⟨hd, h2, ⟨h3, h4, h5, ?_⟩, h7⟩
  obtain ⟨q1, q2, q3, q4, q5, q6⟩ := h6
  exact ⟨q1, q2, q3, q4, by show -1 ≤ max (-1) n; omega, by show max (-1) n ≤ _; omega⟩
theorem _root_.Go.Proofs.YtfgggkheadfiaaaR.DiskM.fuse_pages (d : DiskM) (n : Int) : (d.fuse n).pages = d.pages := by unfold DiskM.fuse; split <;> rfl
theorem fuse_left {d : DiskM} (h : d.dead = false) (n : Int) : (d.fuse n).left = max (-1) n := by unfold DiskM.fuse; rw [h]; rfl
end LogM
end Go.Proofs.YtfgggkheadfiaaaR
