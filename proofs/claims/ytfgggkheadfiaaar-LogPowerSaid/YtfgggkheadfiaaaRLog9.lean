/- Contracts: head, and the steps of Commit and Reset but the third. -/
import Derived.Test.YtfgggkheadfiaaaRLog8
import Derived.Test.YtfgggkheadfiaaaRLaw07a
namespace Go.Proofs.YtfgggkheadfiaaaR
open Go Go.RowKit
attribute [local go_sem ↓] Go.wp_at_zero Go.wp_at_succ

theorem DiskM.write_row (d : DiskM) (at' : Int) (l : List UInt8) : (d.write at' l).1.row.length ≤ d.row.length + 1 := by
  unfold DiskM.write
  have := (DiskM.counted_same d (d.asked at' l.length)).2
  dsimp only
  split
  · rw [this]; omega
  · simp only [List.length_append, List.length_cons, List.length_nil]; rw [this]; omega
theorem DiskM.sync_row (d : DiskM) : d.sync.1.row.length ≤ d.row.length := by
  unfold DiskM.sync
  have := (DiskM.counted_same d (d.asked 0 512)).2
  dsimp only
  split
  · rw [this]; omega
  · simp [DiskM.done]
theorem wrap_add1 (x : BitVec 64) : IntKind.u64.wrap ((x.toNat : Int) + 1) = ((x + 1#64).toNat : Int) := by
  rw [BitVec.toNat_add]
  simp only [IntKind.wrap, IntKind.bits, IntKind.signed]
  simp
theorem LogM.wf_stamp {m : LogM} (h : m.wf) (x : BitVec 64) : ({ m with stamp := x } : LogM).wf := h
/-- What is read of a log's struct. -/
def Held (w : World) (p pd : Nat) (m : LogM) : Prop :=
  w.cell? ⟨p, 0, none⟩ = some (.pointer (some ⟨pd, 0, none⟩)) ∧ w.cell? ⟨p, 1, none⟩ = some (.int .i64 (m.first : Int)) ∧ w.cell? ⟨p, 2, none⟩ = some (.int .i64 (m.n : Int)) ∧ w.cell? ⟨p, 3, none⟩ = some (.int .u64 (m.stamp.toNat : Int)) ∧
     w.cell? ⟨p, 4, none⟩ = some (.bool m.headed) ∧ w.cell? ⟨p, 5, none⟩ = some (.int .i64 (m.end' : Int)) ∧ w.cell? ⟨p, 7, none⟩ = some (.bool m.dead)
theorem LogAt.held {w : World} {o : Own} {L p pd : Nat} {m : LogM} (h : LogAt w o L p pd m) : Held w p pd m := by
  obtain ⟨rv, vs, ⟨c0, c1, c2, c3, c4, c5, c6, c7⟩, -⟩ := h.open
  exact ⟨c0, c1, c2, c3, c4, c5, c7⟩

set_option maxRecDepth 100000 in
set_option maxHeartbeats 3200000 in
theorem head_any {w : World} {o : Own} {L D p pd : Nat} (hL : L ≠ 0) (hD : D ≠ 0) (hLD : L ≠ D) {s : LogM × DiskM} (h : LD w o L D p pd s) (hrow : s.2.row.length ≤ 900000) :
    Calls Try.prog 84 #[.pointer (some ⟨p, 0, none⟩)] w (Ret (In L D) w o fun v w' o' => v = .int .i64 (LogM.head s).2 ∧ LD w' o' L D p pd (LogM.head s).1) := by
  obtain ⟨m, d⟩ := s
  obtain ⟨hl, hd⟩ := h
  simp only at hl hd hrow
  have hN : ¬ In L D 0 := fun h => by rcases h with h | h <;> omega
  obtain ⟨d1, e1, hw⟩ : ∃ d1 e1, d.write (m.first : Int) (LeafM.page ⟨m.stamp + 1#64, 0, 0, []⟩) = (d1, e1) := ⟨_, _, rfl⟩
  obtain ⟨d2, e2, hy⟩ : ∃ d2 e2, d1.sync = (d2, e2) := ⟨_, _, rfl⟩
  have hr1 : d1.row.length ≤ 1000000 := by have := DiskM.write_row d (m.first : Int) (LeafM.page ⟨m.stamp + 1#64, 0, 0, []⟩); rw [hw] at this; simp only at this; omega
  have hE : LogM.head (m, d) = if e1 ≠ 0 then (({ m with stamp := m.stamp + 1#64 }, d1), e1) else (({ m with stamp := m.stamp + 1#64 }, d2), e2) := by
    unfold LogM.head
    simp only [hw, hy]
  have hEH := hidden hE
  clear hE
  have hl1 := hl.set (m' := { m with stamp := m.stamp + 1#64 }) hL 3 (.int .u64 ((m.stamp + 1#64).toNat : Int)) (fun rv => rfl) rfl (LogM.wf_stamp hl.wf _)
  have hs1 := hl.setStep 3 (.int .u64 ((m.stamp + 1#64).toNat : Int))
  have hd1 := hd.step hs1 (fun e => hLD e.symm)
  obtain ⟨rv, vs, ⟨c0, c1, c2, c3, c4, c5, c6, c7⟩, hf, -⟩ := hl.open
  have f3 := hf 3
  have hwr := wrap_add1 m.stamp
  have hplt := hl.lt
  clear hf c0 c1 c2 c4 c5 c6 c7 hl hd
  obtain ⟨st, hst⟩ : ∃ st, m.stamp + 1#64 = st := ⟨_, rfl⟩
  rw [hst] at hw hEH hl1 hs1 hd1 hwr
  clear hst
  go_enter Try.func84, Try.ntmps84
  go_wp2_with fail
  obtain ⟨W, hW⟩ : ∃ W, w.setCell ⟨p, 3, none⟩ (.int .u64 (st.toNat : Int)) = W := ⟨_, rfl⟩
  rw [hW] at hl1 hs1 hd1 ⊢
  have hWs : w.heap.size = W.heap.size := by rw [← hW]; simp
  clear hW c3 f3 hwr
  have hh := hl1.held
  obtain ⟨h0, h1, h2, h3, h4, h5, h7⟩ := hh
  simp only at h0 h1 h2 h3 h4 h5 h7
  refine wp_region_need (fun w' => w'.cell? ⟨p, 0, none⟩ = some (.pointer (some ⟨pd, 0, none⟩)) ∧ w'.cell? ⟨p, 1, none⟩ = some (.int .i64 (m.first : Int)) ∧ w'.cell? ⟨p, 3, none⟩ = some (.int .u64 (st.toNat : Int))) (fun _ => true) (by kernel_rfl) ⟨h0, h1, h3⟩ (fun hHeld => ?_)
  refine wpAnyN_take (i := 0) (v := ?_) rfl (by kernel_rfl) (by kernel_rfl) (by kernel_rfl) (by kernel_rfl) (fun _ _ _ h => h) (Or.inl ⟨by rfl, ?_⟩) (by assumption) ?_
  rotate_left
  · intro w hSw; ((try dsimp only at hSw); go_simp; (try with_reducible rfl))
  simp only [Act.put, List.setIfInBounds_toArray, List.set_cons_zero, List.set_cons_succ]
  refine wpAnyN_take (i := 1) (v := ?_) rfl (by kernel_rfl) (by kernel_rfl) (by kernel_rfl) (by kernel_rfl) (fun _ _ _ h => h) (Or.inl ⟨by rfl, ?_⟩) (by assumption) ?_
  rotate_left
  · intro w hSw; ((try dsimp only at hSw); go_simp; (try with_reducible rfl))
  simp only [Act.put, List.setIfInBounds_toArray, List.set_cons_zero, List.set_cons_succ]
  refine wpAnyN_take (i := 2) (v := ?_) rfl (by kernel_rfl) (by kernel_rfl) (by kernel_rfl) (by kernel_rfl) (fun _ _ _ h => h) (Or.inl ⟨by rfl, ?_⟩) (by assumption) ?_
  rotate_left
  · intro w hSw; ((try dsimp only at hSw); go_simp; (try with_reducible rfl))
  simp only [Act.put, List.setIfInBounds_toArray, List.set_cons_zero, List.set_cons_succ]
  refine wpAnyN_take (i := 3) (v := ?_) rfl (by kernel_rfl) (by kernel_rfl) (by kernel_rfl) (by kernel_rfl) (fun _ _ _ h => h) (Or.inl ⟨by rfl, ?_⟩) (by assumption) ?_
  rotate_left
  · intro w hSw; ((try dsimp only at hSw); go_simp; (try with_reducible rfl))
  simp only [Act.put, List.setIfInBounds_toArray, List.set_cons_zero, List.set_cons_succ]
  refine wpAnyN_take (i := 4) (v := ?_) rfl (by kernel_rfl) (by kernel_rfl) (by kernel_rfl) (by kernel_rfl) (fun _ _ _ h => h) (Or.inl ⟨by rfl, ?_⟩) (by assumption) ?_
  rotate_left
  · intro w hSw; ((try dsimp only at hSw); go_simp; (try with_reducible rfl))
  simp only [Act.put, List.setIfInBounds_toArray, List.set_cons_zero, List.set_cons_succ]
  refine wpAnyN_take (i := 5) (v := ?_) rfl (by kernel_rfl) (by kernel_rfl) (by kernel_rfl) (by kernel_rfl) (fun _ _ _ h => h) (Or.inl ⟨by rfl, ?_⟩) (by assumption) ?_
  rotate_left
  · intro w hSw; ((try dsimp only at hSw); go_simp; (try with_reducible rfl))
  simp only [Act.put, List.setIfInBounds_toArray, List.set_cons_zero, List.set_cons_succ]
  refine wpAnyN_take (i := 6) (v := ?_) rfl (by kernel_rfl) (by kernel_rfl) (by kernel_rfl) (by kernel_rfl) (fun _ _ _ h => h) (Or.inl ⟨by rfl, ?_⟩) (by assumption) ?_
  rotate_left
  · intro w hSw; ((try dsimp only at hSw); go_simp; (try with_reducible rfl))
  simp only [Act.put, List.setIfInBounds_toArray, List.set_cons_zero, List.set_cons_succ]
  refine wpAnyN_take (i := 7) (v := ?_) rfl (by kernel_rfl) (by kernel_rfl) (by kernel_rfl) (by kernel_rfl) (fun _ _ _ h => h) (Or.inl ⟨by rfl, ?_⟩) (by assumption) ?_
  rotate_left
  · intro w hSw; ((try dsimp only at hSw); go_simp; (try with_reducible rfl))
  simp only [Act.put, List.setIfInBounds_toArray, List.set_cons_zero, List.set_cons_succ]
  refine wpAnyN_take (i := 8) (v := ?_) rfl (by kernel_rfl) (by kernel_rfl) (by kernel_rfl) (by kernel_rfl) (fun _ _ _ h => h) (Or.inl ⟨by rfl, ?_⟩) (by assumption) ?_
  rotate_left
  · intro w hSw; ((try dsimp only at hSw); go_simp; (try with_reducible rfl))
  simp only [Act.put, List.setIfInBounds_toArray, List.set_cons_zero, List.set_cons_succ]
  refine wpAnyN_take (i := 9) (v := ?_) rfl (by kernel_rfl) (by kernel_rfl) (by kernel_rfl) (by kernel_rfl) (fun _ _ _ h => h) (Or.inl ⟨by rfl, ?_⟩) (by assumption) ?_
  rotate_left
  · intro w hSw; ((try dsimp only at hSw); go_simp; (try with_reducible rfl))
  simp only [Act.put, List.setIfInBounds_toArray, List.set_cons_zero, List.set_cons_succ]
  refine wpAnyN_take (i := 10) (v := ?_) rfl (by kernel_rfl) (by kernel_rfl) (by kernel_rfl) (by kernel_rfl) (fun _ _ _ h => h) (Or.inl ⟨by rfl, ?_⟩) (by assumption) ?_
  rotate_left
  · intro w hSw; ((try dsimp only at hSw); go_simp; (try with_reducible rfl))
  simp only [Act.put, List.setIfInBounds_toArray, List.set_cons_zero, List.set_cons_succ]
  refine wpAnyN_take (i := 11) (v := ?_) rfl (by kernel_rfl) (by kernel_rfl) (by kernel_rfl) (by kernel_rfl) (fun _ _ _ h => h) (Or.inl ⟨by rfl, ?_⟩) (by assumption) ?_
  rotate_left
  · intro w hSw; ((try dsimp only at hSw); go_simp; (try with_reducible rfl))
  simp only [Act.put, List.setIfInBounds_toArray, List.set_cons_zero, List.set_cons_succ]
  refine wpAnyN_take (i := 12) (v := ?_) rfl (by kernel_rfl) (by kernel_rfl) (by kernel_rfl) (by kernel_rfl) (fun _ _ _ h => h) (Or.inl ⟨by rfl, ?_⟩) (by assumption) ?_
  rotate_left
  · intro w hSw; ((try dsimp only at hSw); go_simp; (try with_reducible rfl))
  simp only [Act.put, List.setIfInBounds_toArray, List.set_cons_zero, List.set_cons_succ]
  have hdr : Step Nobody W o W.drew o := (Step.refl _ _ _).drew
  have hl2 := hl1.step hdr (fun h => h) (fun h => h)
  have hd2 := hd1.step hdr (fun h => h)
  have hs2 := (hs1.inL (D := D)).trans hdr.in0
  have hpage := page_any (w := W.drew) (o := o) (bv := .slice none 0 0) ⟨st, 0, 0, []⟩ (Bytes.nil _ _) (by simp) (by simp) (by simp)
  clear hl1 hd1 hs1 h0 h1 h2 h3 h4 h5 h7
  refine wpAnyN_one (i := 13) rfl (by kernel_rfl) ?_
  go_wp2_with fail
  refine hpage.mono ?_; rintro e W6 ⟨v6, o6, rfl, hs6, hn6⟩
  have hl3 := hl2.step hs6 (fun h => h) (fun h => h)
  have hd3 := hd2.step hs6 (fun h => h)
  have hs3 := hs2.trans hs6.in0
  have hp6 := hn6.bytes
  have hpl : p < W.drew.heap.size := by show p < W.heap.size; omega
  have e6 := hs6.block p hpl (fun h => h)
  have hS6 : W6.cell? ⟨p, 0, none⟩ = some (.pointer (some ⟨pd, 0, none⟩)) ∧ W6.cell? ⟨p, 1, none⟩ = some (.int .i64 (m.first : Int)) ∧ W6.cell? ⟨p, 3, none⟩ = some (.int .u64 (st.toNat : Int)) :=
    ⟨(World.cell?_of_block (a := ⟨p, 0, none⟩) e6).trans hHeld.1, (World.cell?_of_block (a := ⟨p, 1, none⟩) e6).trans hHeld.2.1, (World.cell?_of_block (a := ⟨p, 3, none⟩) e6).trans hHeld.2.2⟩
  have hwr := write_is hd3 hD (by omega) (m.first : Int) v6 _ hp6 hw
  clear hpage hn6 hs6 hl2 hd2 hs2 hdr hp6
  go_wp2_with fail
  refine ⟨fun _ => hS6, ?_⟩
  refine wpAnyN_one (i := 14) rfl (by kernel_rfl) ?_
  go_wp2_with fail
  refine hwr.mono ?_; rintro e W7 ⟨v7, o7, rfl, hs7, rfl, hd7⟩
  have hpL : (o6 p).1 = L := hl3.ofL
  have hpl6 := hl3.lt
  have e7 := hs7.block p hpl6 (by rw [hpL]; exact fun e => hLD e)
  have hS7 : W7.cell? ⟨p, 0, none⟩ = some (.pointer (some ⟨pd, 0, none⟩)) ∧ W7.cell? ⟨p, 1, none⟩ = some (.int .i64 (m.first : Int)) ∧ W7.cell? ⟨p, 3, none⟩ = some (.int .u64 (st.toNat : Int)) :=
    ⟨(World.cell?_of_block (a := ⟨p, 0, none⟩) e7).trans hS6.1, (World.cell?_of_block (a := ⟨p, 1, none⟩) e7).trans hS6.2.1, (World.cell?_of_block (a := ⟨p, 3, none⟩) e7).trans hS6.2.2⟩
  have hl7 := hl3.step hs7 (fun e => hLD e) (fun e => hD e.symm)
  have hs8 := hs3.trans hs7.inD
  clear hl3 hd3 hs3 hs7 hwr hHeld e6 e7
  go_wp2_with fail
  refine ⟨fun _ => hS7, ?_⟩
  refine wpAnyN_one (i := 15) rfl (by kernel_rfl) ?_
  go_wp2_with fail
  refine ⟨fun _ => hS7, ?_⟩
  refine wpAnyN_done (by kernel_rfl) ?_ _
  have q0 := hS7.1
  clear hS7 hS6
  by_cases he : e1 = 0
  · subst he
    have hsy := sync_is hd7 hr1 hy
    rw [if_neg (by simp)] at hEH
    clear hy hw
    go_wp2_with fail
    refine hsy.mono ?_; rintro e W8 ⟨v8, o8, rfl, hs9, rfl, hd8⟩
    go_wp2_with fail
    go_ret
    rw [hEH.out]
    exact ⟨_, o8, rfl, hs8.trans hs9.inD, rfl, hl7.step hs9 (fun e => hLD e) (fun e => hD e.symm), hd8⟩
  · have hne : (e1 != 0) = true := by simpa using he
    rw [if_pos he] at hEH
    clear he hy hw
    go_wp2_with fail
    go_ret
    rw [hEH.out]
    exact ⟨_, o7, rfl, hs8, rfl, hl7, hd7⟩
end Go.Proofs.YtfgggkheadfiaaaR
