/- Contract: the last step of Commit. -/
import Derived.Test.YtfgggkheadfiaaaRLog10
import Derived.Test.YtfgggkheadfiaaaRLogP2
import Derived.Test.YtfgggkheadfiaaaRAny2
namespace Go.Proofs.YtfgggkheadfiaaaR
open Go Go.RowKit
attribute [local go_sem ↓] Go.wp_at_zero Go.wp_at_succ

theorem inf28 : (Try.prog.info? 28).map (fun i => (i.zero.map (fun z => z.cells.toList), i.size, i.bytes)) = some (some [.slice none 0 0], 1, 24) := by kernel_rfl
theorem RowsB.one_cells {w : World} {o : Own} {vs : List Value} {ls : List (List UInt8)} (h : RowsB w o vs ls) : ∀ v ∈ vs, v.oneCell' = true := by
  intro v hv
  obtain ⟨i, hi⟩ := List.mem_iff_getElem?.1 hv
  have hil : i < vs.length := (List.getElem?_eq_some_iff.1 hi).1
  obtain ⟨a, c, rfl⟩ := slc_form (h.2 i v _ hi (List.getElem?_eq_getElem (by rw [← h.1]; exact hil)))
  rfl
theorem RowsB.snoc {w : World} {o : Own} {vs : List Value} {ls : List (List UInt8)} {v : Value} {l : List UInt8} (h : RowsB w o vs ls) (hb : Bytes w o v l) : RowsB w o (vs ++ [v]) (ls ++ [l]) := by
  refine ⟨by simp [h.1], fun i v' l' hv hl => ?_⟩
  by_cases hi : i < vs.length
  · rw [List.getElem?_append_left hi] at hv
    rw [List.getElem?_append_left (by rw [← h.1]; exact hi)] at hl
    exact h.2 i v' l' hv hl
  · rw [List.getElem?_append_right (by omega)] at hv
    rw [List.getElem?_append_right (by rw [← h.1]; omega), ← h.1] at hl
    cases hj : i - vs.length with
    | zero => rw [hj] at hv hl; simp at hv hl; subst hv; subst hl; exact hb
    | succ j => rw [hj] at hv; simp at hv
theorem RowsT.snoc {w : World} {o : Own} {vs : List Value} {ls : List (List UInt8)} {v : Value} {l : List UInt8} (h : RowsT w o vs ls) (hb : Bytes w o v l) (hm : Mine w o v) : RowsT w o (vs ++ [v]) (ls ++ [l]) :=
  ⟨h.1.snoc hb, fun x hx => by
    rcases List.mem_append.1 hx with hx | hx
    · exact h.2 x hx
    · simp only [List.mem_singleton] at hx; subst hx; exact hm⟩
def ext1 (W : World) (o : Own) : Own := fun k => if k < W.heap.size then o k else (0, 1)
/-- Bytes that a call has made anew, as a record's own. -/
theorem fresh_mine {T : Nat → Prop} {w w' : World} {o o' : Own} {v : Value} {l : List UInt8} (hs : Step T w o w' o') (h : NewB w w' o' v l) : ∃ o2, Step T w o w' o2 ∧ Bytes w' o2 v l ∧ Mine w' o2 v := by
  refine ⟨ext1 w o, ⟨hs.os, hs.tape, hs.output, hs.size, fun k hk => if_pos hk, hs.block⟩, ?_, fun b off n c e hn => ?_⟩
  · rcases h.bytes with h0 | ⟨b, off, cap, e, h1, h2, h3, h4, h5⟩
    · exact .inl h0
    · refine .inr ⟨b, off, cap, e, h1, h2, ?_, h4, h5⟩
      have := h.1.lt b (by rw [e]; rfl)
      unfold ext1; rw [if_neg (by omega)]
  · have := h.1.lt b (by rw [e]; rfl)
    exact ⟨this.2, by unfold ext1; rw [if_neg (by omega)]⟩
/-- A slice appended to a row of slices. -/
theorem run_append_slices (W : World) {base : Nat} (hbase : base ≤ W.heap.size) (v : Value) (n : Nat) (xs : List Value) (hown : W.ownsRow base 28 1 v n xs) (b : Nat) (x : Value) (hx : x.oneCell' = true) (hr : W.rangeAt b 0 [x]) (hn : n ≤ 1000000) :
    ∃ g cap w', (Builtin.append_ #[83, 83] 83 #[v, .slice (some ⟨b, 0, none⟩) 1 1]).run Try.prog W = .ok (.slice (some ⟨g, 0, none⟩) (n + 1) cap) w' ∧
      w'.ownsRow base 28 1 (.slice (some ⟨g, 0, none⟩) (n + 1) cap) (n + 1) (xs ++ [x]) ∧ W.grownBy w' v.ownBlock ∧ (v.ownBlock = some g ∨ g = W.heap.size) ∧ g < w'.heap.size :=
  run_append_row (P := Try.prog) W 83 83 28 Try.underlying83 inf28 rfl (by omega) hbase v n xs hown b 0 1 1 [x] rfl hr (by intro u hu; simp at hu; subst hu; exact hx) (by omega) (by omega) (by omega)

section
variable {w : World} {o : Own} {L D p pd : Nat} {s : LogM × DiskM}
set_option maxRecDepth 100000 in
set_option maxHeartbeats 3200000 in
theorem step4_any (hL : L ≠ 0) (hLD : L ≠ D) (h : LD w o L D p pd s) (b : List UInt8) (bv : Value) (hb : Bytes w o bv b) (hroom : LogM.many b ≤ s.1.n - s.1.end') (hblen : b.length ≤ 960000) (bl bb bm : Nat) (hl : Box w o bl 57 (.pointer (some ⟨p, 0, none⟩))) (hbb : Box w o bb 28 bv) (hm : Box w o bm 3 (.int .i64 (LogM.many b : Int))) :
    Calls Try.prog 88 #[.pointer (some ⟨bl, 0, none⟩), .pointer (some ⟨bb, 0, none⟩), .pointer (some ⟨bm, 0, none⟩)] w (Ret (In L D) w o fun v w' o' => v = .int .i64 (LogM.step4 b s).2 ∧ LD w' o' L D p pd (LogM.step4 b s).1) := by
  obtain ⟨m, d⟩ := s
  obtain ⟨hlg, hdk⟩ := h
  simp only at hlg hdk hroom
  have hwf := hlg.wf
  obtain ⟨g1, g2, g3, g4, g5, g6, g7⟩ := hlg.wf
  have hmp := LogM.many_pos b
  have cl := hl.cell
  have cb := hbb.cell
  have cm := hm.cell
  have tl : (o bl).1 ≠ L := by rw [hl.2]; exact fun e => hL e.symm
  have tb : (o bb).1 ≠ L := by rw [hbb.2]; exact fun e => hL e.symm
  have tm : (o bm).1 ≠ L := by rw [hm.2]; exact fun e => hL e.symm
  have hblp : bl ≠ p := by rintro rfl; have h1 := hl.2; have h2 := hlg.ofL; omega
  have hbbp : bb ≠ p := by rintro rfl; have h1 := hbb.2; have h2 := hlg.ofL; omega
  have hbmp : bm ≠ p := by rintro rfl; have h1 := hm.2; have h2 := hlg.ofL; omega
  obtain ⟨k, hk⟩ : ∃ k, LogM.many b = k := ⟨_, rfl⟩
  have hE : LogM.step4 b (m, d) = (({ m with records := m.records ++ [b], end' := m.end' + k }, d), 0) := by unfold LogM.step4; rw [hk]
  have hEH := hidden hE
  rw [hk] at hroom hmp hm cm
  have hdr : Step Nobody w o w.drew o := (Step.refl _ _ _).drew
  have hlg1 := hlg.step hdr (fun h => h) (fun h => h)
  have hdk1 := hdk.step hdr (fun h => h)
  have hb1 := hb.step hdr (fun h => h)
  have hcl := clone_any hb1 (by omega)
  obtain ⟨rv, vs, hp, hro, hv, op, orr, -⟩ := hlg1
  have hadd : (m.end' : Int) + (k : Int) = ((m.end' + k : Nat) : Int) := by omega
  have c5 : w.drew.cell? ⟨p, 5, none⟩ = some (.int .i64 (m.end' : Int)) := cell_of_block hp 5
  have c6 : w.drew.cell? ⟨p, 6, none⟩ = some rv := cell_of_block hp 6
  obtain ⟨ra, rc, hrv⟩ := own_form hro
  have hbf := slc_form hb
  obtain ⟨ba, bc, rfl⟩ := hbf
  have hroH := hidden hro
  have hpH := hidden hp
  have hvH := hidden hv
  subst hrv
  have opH := hidden op
  have hkH := hidden hk
  clear hE hl hbb hm hlg hdk hb hro hp hv op hk
  have he1 : (m.end' : Int) ≤ 2000 := by omega
  have hk1 : (k : Int) ≤ 2000 := by omega
  have wadd : IntKind.i64.wrap ((m.end' : Int) + (k : Int)) = ((m.end' + k : Nat) : Int) := by rw [wrap_i64 (by omega) (by omega)]; omega
  have haddH := hidden hadd
  have waddH := hidden wadd
  clear hadd wadd
  go_enter Try.func88, Try.ntmps88
  go_wp2_with fail
  have hK0 : (w.drew.cell? ⟨bl, 0, none⟩ = some (.pointer (some ⟨p, 0, none⟩)) ∧ w.drew.cell? ⟨bb, 0, none⟩ = some (.slice ba b.length bc) ∧ w.drew.cell? ⟨bm, 0, none⟩ = some (.int .i64 (k : Int))) := ⟨cl, cb, cm⟩
  have hC0 : (w.drew.cell? ⟨p, 5, none⟩ = some (.int .i64 (m.end' : Int)) ∧ w.drew.cell? ⟨p, 6, none⟩ = some (.slice ra m.records.length rc)) := ⟨c5, c6⟩
  refine wp_region_g (fun i w' => (w'.cell? ⟨bl, 0, none⟩ = some (.pointer (some ⟨p, 0, none⟩)) ∧ w'.cell? ⟨bb, 0, none⟩ = some (.slice ba b.length bc) ∧ w'.cell? ⟨bm, 0, none⟩ = some (.int .i64 (k : Int))) ∧ (i < 18 ∨ 22 ≤ i → (w'.cell? ⟨p, 5, none⟩ = some (.int .i64 (m.end' : Int)) ∧ w'.cell? ⟨p, 6, none⟩ = some (.slice ra m.records.length rc)))) (by kernel_rfl) ?_
  refine wpAnyG_take (i := 0) (St := (fun w' => (w'.cell? ⟨bl, 0, none⟩ = some (.pointer (some ⟨p, 0, none⟩)) ∧ w'.cell? ⟨bb, 0, none⟩ = some (.slice ba b.length bc) ∧ w'.cell? ⟨bm, 0, none⟩ = some (.int .i64 (k : Int))))) (v := ?_) rfl (by kernel_rfl) (by kernel_rfl) (by kernel_rfl) (fun j w hd h => h.1) (fun _ _ _ h => h) (Or.inl ⟨by rfl, ?_⟩) (hK0) ?_
  rotate_left
  · intro w hSw; ((try dsimp only at hSw); go_simp; (try with_reducible rfl))
  simp only [Act.put, List.setIfInBounds_toArray, List.set_cons_zero, List.set_cons_succ]
  refine wpAnyG_take (i := 1) (St := (fun w' => (w'.cell? ⟨bl, 0, none⟩ = some (.pointer (some ⟨p, 0, none⟩)) ∧ w'.cell? ⟨bb, 0, none⟩ = some (.slice ba b.length bc) ∧ w'.cell? ⟨bm, 0, none⟩ = some (.int .i64 (k : Int))))) (v := ?_) rfl (by kernel_rfl) (by kernel_rfl) (by kernel_rfl) (fun j w hd h => h.1) (fun _ _ _ h => h) (Or.inl ⟨by rfl, ?_⟩) (hK0) ?_
  rotate_left
  · intro w hSw; ((try dsimp only at hSw); go_simp; (try with_reducible rfl))
  simp only [Act.put, List.setIfInBounds_toArray, List.set_cons_zero, List.set_cons_succ]
  refine wpAnyG_take (i := 2) (St := (fun w' => (w'.cell? ⟨bl, 0, none⟩ = some (.pointer (some ⟨p, 0, none⟩)) ∧ w'.cell? ⟨bb, 0, none⟩ = some (.slice ba b.length bc) ∧ w'.cell? ⟨bm, 0, none⟩ = some (.int .i64 (k : Int))))) (v := ?_) rfl (by kernel_rfl) (by kernel_rfl) (by kernel_rfl) (fun j w hd h => h.1) (fun _ _ _ h => h) (Or.inl ⟨by rfl, ?_⟩) (hK0) ?_
  rotate_left
  · intro w hSw; ((try dsimp only at hSw); go_simp; (try with_reducible rfl))
  simp only [Act.put, List.setIfInBounds_toArray, List.set_cons_zero, List.set_cons_succ]
  refine wpAnyG_take (i := 3) (St := (fun _ => True)) (v := ?_) rfl (by kernel_rfl) (by kernel_rfl) (by kernel_rfl) (fun _ _ _ _ => trivial) (fun _ _ _ h => h) (Or.inl ⟨by rfl, ?_⟩) (trivial) ?_
  rotate_left
  · intro w hSw; ((try dsimp only at hSw); go_simp; (try with_reducible rfl))
  simp only [Act.put, List.setIfInBounds_toArray, List.set_cons_zero, List.set_cons_succ]
  refine wpAnyG_take (i := 4) (St := (fun _ => True)) (v := ?_) rfl (by kernel_rfl) (by kernel_rfl) (by kernel_rfl) (fun _ _ _ _ => trivial) (fun _ _ _ h => h) (Or.inl ⟨by rfl, ?_⟩) (trivial) ?_
  rotate_left
  · intro w hSw; ((try dsimp only at hSw); go_simp; (try with_reducible rfl))
  simp only [Act.put, List.setIfInBounds_toArray, List.set_cons_zero, List.set_cons_succ]
  refine wpAnyG_take (i := 5) (St := (fun w' => (w'.cell? ⟨bl, 0, none⟩ = some (.pointer (some ⟨p, 0, none⟩)) ∧ w'.cell? ⟨bb, 0, none⟩ = some (.slice ba b.length bc) ∧ w'.cell? ⟨bm, 0, none⟩ = some (.int .i64 (k : Int))) ∧ (w'.cell? ⟨p, 5, none⟩ = some (.int .i64 (m.end' : Int)) ∧ w'.cell? ⟨p, 6, none⟩ = some (.slice ra m.records.length rc)))) (v := ?_) rfl (by kernel_rfl) (by kernel_rfl) (by kernel_rfl) (fun j w hd h => ⟨h.1, h.2 (dep_out (lo := 18) (hi := 22) (by kernel_rfl) j hd)⟩) (fun _ _ _ h => h) (Or.inl ⟨by rfl, ?_⟩) (⟨hK0, hC0⟩) ?_
  rotate_left
  · intro w hSw; ((try dsimp only at hSw); go_simp; (try with_reducible rfl))
  simp only [Act.put, List.setIfInBounds_toArray, List.set_cons_zero, List.set_cons_succ]
  refine wpAnyG_take (i := 6) (St := (fun w' => (w'.cell? ⟨bl, 0, none⟩ = some (.pointer (some ⟨p, 0, none⟩)) ∧ w'.cell? ⟨bb, 0, none⟩ = some (.slice ba b.length bc) ∧ w'.cell? ⟨bm, 0, none⟩ = some (.int .i64 (k : Int))))) (v := ?_) rfl (by kernel_rfl) (by kernel_rfl) (by kernel_rfl) (fun j w hd h => h.1) (fun _ _ _ h => h) (Or.inl ⟨by rfl, ?_⟩) (hK0) ?_
  rotate_left
  · intro w hSw; ((try dsimp only at hSw); go_simp; (try with_reducible rfl))
  simp only [Act.put, List.setIfInBounds_toArray, List.set_cons_zero, List.set_cons_succ]
  refine wpAnyG_take (i := 10) (St := (fun w' => (w'.cell? ⟨bl, 0, none⟩ = some (.pointer (some ⟨p, 0, none⟩)) ∧ w'.cell? ⟨bb, 0, none⟩ = some (.slice ba b.length bc) ∧ w'.cell? ⟨bm, 0, none⟩ = some (.int .i64 (k : Int))))) (v := ?_) rfl (by kernel_rfl) (by kernel_rfl) (by kernel_rfl) (fun j w hd h => h.1) (fun _ _ _ h => h) (Or.inl ⟨by rfl, ?_⟩) (hK0) ?_
  rotate_left
  · intro w hSw; ((try dsimp only at hSw); go_simp; (try with_reducible rfl))
  simp only [Act.put, List.setIfInBounds_toArray, List.set_cons_zero, List.set_cons_succ]
  refine wpAnyG_take (i := 11) (St := (fun _ => True)) (v := ?_) rfl (by kernel_rfl) (by kernel_rfl) (by kernel_rfl) (fun _ _ _ _ => trivial) (fun _ _ _ h => h) (Or.inl ⟨by rfl, ?_⟩) (trivial) ?_
  rotate_left
  · intro w hSw; ((try dsimp only at hSw); go_simp; (try with_reducible rfl))
  simp only [Act.put, List.setIfInBounds_toArray, List.set_cons_zero, List.set_cons_succ]
  refine wpAnyG_take (i := 12) (St := (fun _ => True)) (v := ?_) rfl (by kernel_rfl) (by kernel_rfl) (by kernel_rfl) (fun _ _ _ _ => trivial) (fun _ _ _ h => h) (Or.inl ⟨by rfl, ?_⟩) (trivial) ?_
  rotate_left
  · intro w hSw; ((try dsimp only at hSw); go_simp; (try with_reducible rfl))
  simp only [Act.put, List.setIfInBounds_toArray, List.set_cons_zero, List.set_cons_succ]
  refine wpAnyG_take (i := 13) (St := (fun w' => (w'.cell? ⟨bl, 0, none⟩ = some (.pointer (some ⟨p, 0, none⟩)) ∧ w'.cell? ⟨bb, 0, none⟩ = some (.slice ba b.length bc) ∧ w'.cell? ⟨bm, 0, none⟩ = some (.int .i64 (k : Int))) ∧ (w'.cell? ⟨p, 5, none⟩ = some (.int .i64 (m.end' : Int)) ∧ w'.cell? ⟨p, 6, none⟩ = some (.slice ra m.records.length rc)))) (v := ?_) rfl (by kernel_rfl) (by kernel_rfl) (by kernel_rfl) (fun j w hd h => ⟨h.1, h.2 (dep_out (lo := 18) (hi := 22) (by kernel_rfl) j hd)⟩) (fun _ _ _ h => h) (Or.inl ⟨by rfl, ?_⟩) (⟨hK0, hC0⟩) ?_
  rotate_left
  · intro w hSw; ((try dsimp only at hSw); go_simp; (try with_reducible rfl))
  simp only [Act.put, List.setIfInBounds_toArray, List.set_cons_zero, List.set_cons_succ]
  refine wpAnyG_take (i := 14) (St := (fun w' => (w'.cell? ⟨bl, 0, none⟩ = some (.pointer (some ⟨p, 0, none⟩)) ∧ w'.cell? ⟨bb, 0, none⟩ = some (.slice ba b.length bc) ∧ w'.cell? ⟨bm, 0, none⟩ = some (.int .i64 (k : Int))))) (v := ?_) rfl (by kernel_rfl) (by kernel_rfl) (by kernel_rfl) (fun j w hd h => h.1) (fun _ _ _ h => h) (Or.inl ⟨by rfl, ?_⟩) (hK0) ?_
  rotate_left
  · intro w hSw; ((try dsimp only at hSw); go_simp; (try with_reducible rfl))
  simp only [Act.put, List.setIfInBounds_toArray, List.set_cons_zero, List.set_cons_succ]
  refine wpAnyG_take (i := 15) (St := (fun _ => True)) (v := ?_) rfl (by kernel_rfl) (by kernel_rfl) (by kernel_rfl) (fun _ _ _ _ => trivial) (fun _ _ _ h => h) (Or.inl ⟨by rfl, ?_⟩) (trivial) ?_
  rotate_left
  · intro w hSw; ((try dsimp only at hSw); go_simp; (try with_reducible rfl))
  simp only [Act.put, List.setIfInBounds_toArray, List.set_cons_zero, List.set_cons_succ]
  refine wpAnyG_one (i := 7) rfl (by kernel_rfl) ?_
  rw [waddH.out]
  go_wp2_with fail
  refine hcl.mono ?_; rintro e w1 ⟨v1, o0', rfl, hs0', hn1⟩
  obtain ⟨o1, hs1, hbv1, hmv1⟩ := fresh_mine hs0' hn1
  clear hs0' hn1
  obtain ⟨va, vc, rfl⟩ := slc_form hbv1
  have hblt := World.block_lt_of_cell? _ _ hK0.1
  have hpl : p < w.drew.heap.size := lt_of_block hpH.out
  have keep : ∀ (x y : World) (ox oy : Own), Step Nobody x ox y oy → w.drew.heap.size ≤ x.heap.size → ((x.cell? ⟨bl, 0, none⟩ = some (.pointer (some ⟨p, 0, none⟩)) ∧ x.cell? ⟨bb, 0, none⟩ = some (.slice ba b.length bc) ∧ x.cell? ⟨bm, 0, none⟩ = some (.int .i64 (k : Int))) ∧ (x.cell? ⟨p, 5, none⟩ = some (.int .i64 (m.end' : Int)) ∧ x.cell? ⟨p, 6, none⟩ = some (.slice ra m.records.length rc))) → ((y.cell? ⟨bl, 0, none⟩ = some (.pointer (some ⟨p, 0, none⟩)) ∧ y.cell? ⟨bb, 0, none⟩ = some (.slice ba b.length bc) ∧ y.cell? ⟨bm, 0, none⟩ = some (.int .i64 (k : Int))) ∧ (y.cell? ⟨p, 5, none⟩ = some (.int .i64 (m.end' : Int)) ∧ y.cell? ⟨p, 6, none⟩ = some (.slice ra m.records.length rc))) := fun x y ox oy hs hle h => by
    have e1 := hs.block bl (Nat.lt_of_lt_of_le (World.block_lt_of_cell? _ _ hK0.1) hle) (fun h => h)
    have e2 := hs.block bb (Nat.lt_of_lt_of_le (World.block_lt_of_cell? _ _ hK0.2.1) hle) (fun h => h)
    have e3 := hs.block bm (Nat.lt_of_lt_of_le (World.block_lt_of_cell? _ _ hK0.2.2) hle) (fun h => h)
    have e4 := hs.block p (Nat.lt_of_lt_of_le hpl hle) (fun h => h)
    exact ⟨⟨(World.cell?_of_block (a := ⟨bl, 0, none⟩) e1).trans h.1.1, (World.cell?_of_block (a := ⟨bb, 0, none⟩) e2).trans h.1.2.1, (World.cell?_of_block (a := ⟨bm, 0, none⟩) e3).trans h.1.2.2⟩,
      (World.cell?_of_block (a := ⟨p, 5, none⟩) e4).trans h.2.1, (World.cell?_of_block (a := ⟨p, 6, none⟩) e4).trans h.2.2⟩
  have hKC1 := keep _ _ _ _ hs1 (Nat.le_refl _) ⟨hK0, hC0⟩
  go_wp2_with fail
  refine ⟨.inr ⟨hKC1.1, fun _ => hKC1.2⟩, ?_⟩
  have hsz1 := hs1.size
  have hsN : Step Nobody w1 o1 _ _ := (Step.refl _ w1 o1).alloc (.cells #[.slice va b.length vc] 28) (0, 0)
  have hKC2 := keep _ _ _ _ hsN hsz1 hKC1
  have hnb : (w1.alloc (.cells #[.slice va b.length vc] 28)).heap[w1.heap.size]? = some (.cells #[.slice va b.length vc] 28 (0, 0)) := heap_alloc_new w1 _
  refine wpAnyG_one (i := 8) rfl (by kernel_rfl) ?_
  go_wp2_with fail
  refine ⟨.inr ⟨hKC2.1, fun _ => hKC2.2⟩, ?_⟩
  have hs2 := hs1.trans hsN
  have hrow2 := ownsRow_same hroH.out (fun k hk => hs2.block k (hroH.out.lt k hk).2 (fun h => h))
  have hvs2 := hvH.out.step hs2 (fun h => h)
  have hbv2 := hbv1.step hsN (fun h => h)
  have hmv2 := hmv1.step hsN
  have hdk2 := hdk1.step hs2 (fun h => h)
  have hp2 := (hs2.block p hpl (fun h => h)).trans hpH.out
  have op2 := (hs2.own p hpl).trans opH.out
  have horr2 : ∀ k, (Value.slice ra m.records.length rc).ownBlock = some k → tagAt o1 w1.heap.size (0, 0) k = (L, 1) := fun k hk => (hs2.own k (hroH.out.lt k hk).2).trans (orr k hk)
  have hsT := hdr.trans hs2
  generalize hW2 : w1.alloc (.cells #[.slice va b.length vc] 28) = W2 at *
  generalize tagAt o1 w1.heap.size (0, 0) = o2 at *
  obtain ⟨g, cap, w3, hrun, hown3, hgrow, hat, hlt3⟩ := run_append_slices W2 (Nat.zero_le _) _ _ _ hrow2 w1.heap.size (.slice va b.length vc) rfl (range_whole (cs := [.slice va b.length vc]) hnb) (by omega)
  have hW2s : w1.heap.size < W2.heap.size := lt_of_block hnb
  have hgt : o2 g = (L, 1) ∨ W2.heap.size ≤ g := by
    rcases hat with hat | hat
    · exact .inl (horr2 g hat)
    · exact .inr (by omega)
  have hs3 : Step (Only L) W2 o2 w3 (tagAt o2 g (L, 1)) := (Step.refl (Only L) W2 o2).grown hgrow (fun k hk => .inl (by rw [horr2 k hk]; rfl)) g (L, 1) hgt
  have hplW : p < W2.heap.size := lt_of_block hp2
  have hgp : p ≠ g := by
    rintro rfl
    rcases hgt with h1 | h1
    · rw [op2] at h1; simp at h1
    · omega
  have hp3 : w3.heap[p]? = some (.cells (m.cells pd (.slice ra m.records.length rc)).toArray 135 (0, 0)) := by
    rw [hgrow.block p hplW (by intro hx; have := horr2 p hx.symm; rw [op2] at this; simp at this)]; exact hp2
  have hN0 : ¬ Only L 0 := fun h => hL h.symm
  have hvs3 := (hvs2.snoc hbv2 hmv2).step hs3 hN0
  have hdk3 := hdk2.step hs3 (fun e => hLD e.symm)
  have nL : ∀ k, k < W2.heap.size → ¬ Only L (o2 k).1 → w3.heap[k]? = W2.heap[k]? := fun k hk ht => hs3.block k hk ht
  have notL : ∀ k, k < w.drew.heap.size → (o k).1 ≠ L → ¬ Only L (o2 k).1 := fun k hk h hx => h (by rw [← hs2.own k hk]; exact hx)
  have hszd : w.drew.heap.size ≤ W2.heap.size := hs2.size
  have kl := World.block_lt_of_cell? _ _ hK0.1
  have kb := World.block_lt_of_cell? _ _ hK0.2.1
  have km := World.block_lt_of_cell? _ _ hK0.2.2
  have kp : w3.heap[p]? = W2.heap[p]? := hp3.trans hp2.symm
  have hK3 : (w3.cell? ⟨bl, 0, none⟩ = some (.pointer (some ⟨p, 0, none⟩)) ∧ w3.cell? ⟨bb, 0, none⟩ = some (.slice ba b.length bc) ∧ w3.cell? ⟨bm, 0, none⟩ = some (.int .i64 (k : Int))) ∧ (w3.cell? ⟨p, 5, none⟩ = some (.int .i64 (m.end' : Int)) ∧ w3.cell? ⟨p, 6, none⟩ = some (.slice ra m.records.length rc)) := ⟨⟨(World.cell?_of_block (a := ⟨bl, 0, none⟩) (nL bl (Nat.lt_of_lt_of_le kl hszd) (notL bl kl tl))).trans hKC2.1.1, (World.cell?_of_block (a := ⟨bb, 0, none⟩) (nL bb (Nat.lt_of_lt_of_le kb hszd) (notL bb kb tb))).trans hKC2.1.2.1, (World.cell?_of_block (a := ⟨bm, 0, none⟩) (nL bm (Nat.lt_of_lt_of_le km hszd) (notL bm km tm))).trans hKC2.1.2.2⟩,
      (World.cell?_of_block (a := ⟨p, 5, none⟩) kp).trans hKC2.2.1, (World.cell?_of_block (a := ⟨p, 6, none⟩) kp).trans hKC2.2.2⟩
  have hrunH := hidden hrun
  clear hrun hat hrow2 hvs2 hbv2 hdk2 hKC2 hKC1 hcl hbv1 hmv1 hmv2 keep hnb hW2
  refine wpAnyG_one (i := 9) rfl (by kernel_rfl) ?_
  refine lit_append hrunH.out ?_
  refine wpList_nil ?_
  refine ⟨.inr ⟨hK3.1, fun _ => hK3.2⟩, ?_⟩
  simp only [Act.put, List.setIfInBounds_toArray, List.set_cons_zero, List.set_cons_succ]
  have q5 := hK3.2.1
  have q6 := hK3.2.2
  have f5 := free_of_block hp3 5
  have f6 := free_of_block hp3 6
  have K4 : ((w3.setCell ⟨p, 6, none⟩ (.slice (some ⟨g, 0, none⟩) (m.records.length + 1) cap)).cell? ⟨bl, 0, none⟩ = some (.pointer (some ⟨p, 0, none⟩)) ∧ (w3.setCell ⟨p, 6, none⟩ (.slice (some ⟨g, 0, none⟩) (m.records.length + 1) cap)).cell? ⟨bb, 0, none⟩ = some (.slice ba b.length bc) ∧ (w3.setCell ⟨p, 6, none⟩ (.slice (some ⟨g, 0, none⟩) (m.records.length + 1) cap)).cell? ⟨bm, 0, none⟩ = some (.int .i64 (k : Int))) := ⟨by rw [World.cell?_setCell_other _ _ _ _ (by simp)]; exact hK3.1.1, by rw [World.cell?_setCell_other _ _ _ _ (by simp)]; exact hK3.1.2.1, by rw [World.cell?_setCell_other _ _ _ _ (by simp)]; exact hK3.1.2.2⟩
  have K5 : (((w3.setCell ⟨p, 6, none⟩ (.slice (some ⟨g, 0, none⟩) (m.records.length + 1) cap)).setCell ⟨p, 5, none⟩ (.int .i64 ((m.end' + k : Nat) : Int))).cell? ⟨bl, 0, none⟩ = some (.pointer (some ⟨p, 0, none⟩)) ∧ ((w3.setCell ⟨p, 6, none⟩ (.slice (some ⟨g, 0, none⟩) (m.records.length + 1) cap)).setCell ⟨p, 5, none⟩ (.int .i64 ((m.end' + k : Nat) : Int))).cell? ⟨bb, 0, none⟩ = some (.slice ba b.length bc) ∧ ((w3.setCell ⟨p, 6, none⟩ (.slice (some ⟨g, 0, none⟩) (m.records.length + 1) cap)).setCell ⟨p, 5, none⟩ (.int .i64 ((m.end' + k : Nat) : Int))).cell? ⟨bm, 0, none⟩ = some (.int .i64 (k : Int))) := ⟨by rw [World.cell?_setCell_other _ _ _ _ (by simp)]; exact K4.1, by rw [World.cell?_setCell_other _ _ _ _ (by simp)]; exact K4.2.1, by rw [World.cell?_setCell_other _ _ _ _ (by simp)]; exact K4.2.2⟩
  have hwf' : ({ m with records := m.records ++ [b], end' := m.end' + k } : LogM).wf := by
    refine ⟨g1, g2, g3, by show 1 ≤ m.end' + k; omega, by show m.end' + k ≤ m.n; omega, by show (m.records ++ [b]).length + 1 ≤ m.end' + k; simp only [List.length_append, List.length_cons, List.length_nil]; omega, ?_⟩
    intro r hr
    rcases List.mem_append.1 hr with hr | hr
    · exact g7 r hr
    · simp only [List.mem_singleton] at hr; subst hr; exact hblen
  have op3 : tagAt o2 g (L, 1) p = (L, 0) := by rw [tagAt_other _ _ hgp]; exact op2
  have hs45 : Step (Only L) w3 (tagAt o2 g (L, 1)) ((w3.setCell ⟨p, 6, none⟩ (.slice (some ⟨g, 0, none⟩) (m.records.length + 1) cap)).setCell ⟨p, 5, none⟩ (.int .i64 ((m.end' + k : Nat) : Int))) (tagAt o2 g (L, 1)) :=
    ((Step.refl (Only L) w3 (tagAt o2 g (L, 1))).setCell (a := ⟨p, 6, none⟩) _ (.inl (by show (tagAt o2 g (L, 1) p).1 = L; rw [op3]))).setCell (a := ⟨p, 5, none⟩) _ (.inl (by show (tagAt o2 g (L, 1) p).1 = L; rw [op3]))
  have hlog : LogAt ((w3.setCell ⟨p, 6, none⟩ (.slice (some ⟨g, 0, none⟩) (m.records.length + 1) cap)).setCell ⟨p, 5, none⟩ (.int .i64 ((m.end' + k : Nat) : Int))) (tagAt o2 g (L, 1)) L p pd { m with records := m.records ++ [b], end' := m.end' + k } := by
    refine ⟨.slice (some ⟨g, 0, none⟩) (m.records.length + 1) cap, vs ++ [.slice va b.length vc], heap_setCell_at (i := 5) _ (heap_setCell_at (i := 6) _ hp3), ?_, hvs3.step hs45 hN0, op3, ?_, hwf'⟩
    · have : (m.records ++ [b]).length = m.records.length + 1 := by simp
      show World.ownsRow _ 0 28 1 _ (m.records ++ [b]).length _
      rw [this]
      refine ownsRow_same hown3 fun k hk => ?_
      simp only [Value.ownBlock, Option.some.injEq] at hk
      subst hk
      rw [Below.heap_setCell _ _ _ _ (Ne.symm hgp), Below.heap_setCell _ _ _ _ (Ne.symm hgp)]
    · intro k hk
      simp only [Value.ownBlock, Option.some.injEq] at hk
      subst hk; exact tagAt_same _ _ _
  have hfin : Step (In L D) w o _ _ := (((hsT.only L).trans hs3).trans hs45).inL
  have hdkF := hdk3.step hs45 (fun e => hLD e.symm)
  have hfH := hidden (show _ ∧ _ ∧ _ from ⟨hfin, hlog, hdkF⟩)
  have K4H := hidden K4
  have K5H := hidden K5
  clear K4 K5 hfin hlog hdkF hs45 op3 hwf' hvs3 hdk3 hp3 kp hK3 hs3 hsT hs2 hsN hs1 hown3 hgrow nL notL hdk1
  refine wpAnyG_one (i := 16) rfl (by kernel_rfl) ?_
  go_wp2_with fail
  (first | refine ⟨.inl trivial, ?_⟩ | refine ⟨.inl rfl, ?_⟩ | skip)
  refine wpAnyG_one (i := 17) rfl (by kernel_rfl) ?_
  go_wp2_with fail
  (first | refine ⟨.inl trivial, ?_⟩ | refine ⟨.inl rfl, ?_⟩ | skip)
  refine wpAnyG_one (i := 18) rfl (by kernel_rfl) ?_
  go_wp2_with fail
  refine ⟨.inr ⟨K4H.out, fun h => by rcases h with h | h <;> omega⟩, ?_⟩
  refine wpAnyG_one (i := 19) rfl (by kernel_rfl) ?_
  go_wp2_with fail
  (first | refine ⟨.inl trivial, ?_⟩ | refine ⟨.inl rfl, ?_⟩ | skip)
  refine wpAnyG_one (i := 20) rfl (by kernel_rfl) ?_
  go_wp2_with fail
  (first | refine ⟨.inl trivial, ?_⟩ | refine ⟨.inl rfl, ?_⟩ | skip)
  refine wpAnyG_one (i := 21) rfl (by kernel_rfl) ?_
  go_wp2_with fail
  refine ⟨.inr ⟨K5H.out, fun h => by rcases h with h | h <;> omega⟩, ?_⟩
  refine wpAnyG_done (by kernel_rfl) ?_ _
  clear q5 q6 f5 f6
  go_wp2_with fail
  go_ret
  rw [hEH.out]
  exact ⟨_, _, rfl, hfH.out.1, rfl, hfH.out.2.1, hfH.out.2.2⟩
end
end Go.Proofs.YtfgggkheadfiaaaR
