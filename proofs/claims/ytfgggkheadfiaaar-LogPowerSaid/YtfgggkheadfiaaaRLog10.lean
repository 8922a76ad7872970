/- Contracts: the steps of Commit and Reset but the third. -/
import Derived.Test.YtfgggkheadfiaaaRLog9
namespace Go.Proofs.YtfgggkheadfiaaaR
open Go Go.RowKit
attribute [local go_sem ↓] Go.wp_at_zero Go.wp_at_succ

/-- A variable that a function value has captured: plain data. -/
def Box (w : World) (o : Own) (b : Nat) (t : TypeId) (v : Value) : Prop := w.heap[b]? = some (.cells #[v] t (0, 0)) ∧ (o b).1 = 0
theorem Box.step {T : Nat → Prop} {w w' : World} {o o' : Own} {b : Nat} {t : TypeId} {v : Value} (h : Box w o b t v) (s : Step T w o w' o') (hT : ¬ T 0) : Box w' o' b t v :=
  ⟨by rw [s.block b (lt_of_block h.1) (by rw [h.2]; exact hT)]; exact h.1, by rw [s.own b (lt_of_block h.1)]; exact h.2⟩
theorem Box.cell {w : World} {o : Own} {b : Nat} {t : TypeId} {v : Value} (h : Box w o b t v) : w.cell? ⟨b, 0, none⟩ = some v := cell_of_one h.1
theorem Box.new (w : World) (o : Own) (t : TypeId) (v : Value) : Box (w.alloc (.cells #[v] t)) (tagAt o w.heap.size (0, 0)) w.heap.size t v := ⟨heap_alloc_new w _, by rw [tagAt_same]⟩
section
variable {w : World} {o : Own} {L D p pd : Nat} {s : LogM × DiskM}

set_option maxRecDepth 100000 in
set_option maxHeartbeats 3200000 in
theorem step1_any (h : LD w o L D p pd s) (b : List UInt8) (_hmany : LogM.many b ≤ 1000000000000) (bm bl : Nat) (hm : Box w o bm 3 (.int .i64 (LogM.many b : Int))) (hl : Box w o bl 57 (.pointer (some ⟨p, 0, none⟩))) :
    Calls Try.prog 82 #[.pointer (some ⟨bm, 0, none⟩), .pointer (some ⟨bl, 0, none⟩)] w (Ret (In L D) w o fun v w' o' => v = .int .i64 (LogM.step1 b s).2 ∧ LD w' o' L D p pd (LogM.step1 b s).1) := by
  obtain ⟨c0, c1, c2, c3, c4, c5, c7⟩ := h.1.held
  obtain ⟨g1, g2, g3, g4, g5, -⟩ := h.1.wf
  have cm := hm.cell
  have cl := hl.cell
  have hst : Step (In L D) w o w.drew o := (Step.refl _ w o).drew
  have hld := h.step ((Step.refl Nobody w o).drew) (fun h => h) (fun h => h) (fun h => h)
  have hsub : ((s.1.n : Int) - (s.1.end' : Int)) = ((s.1.n - s.1.end' : Nat) : Int) := by omega
  have hE : LogM.step1 b s = if s.1.n - s.1.end' < LogM.many b then (s, 4) else (s, 0) := rfl
  have hEH := hidden hE
  clear hE c0 c1 c3 c4 c7 h hm hl
  generalize s.1.n = n at *
  generalize s.1.end' = e at *
  generalize LogM.many b = m at *
  go_enter Try.func82, Try.ntmps82
  go_wp2_with fail
  refine wp_region_need (fun w' => w'.cell? ⟨p, 2, none⟩ = some (.int .i64 (n : Int)) ∧ w'.cell? ⟨p, 5, none⟩ = some (.int .i64 (e : Int)) ∧ w'.cell? ⟨bm, 0, none⟩ = some (.int .i64 (m : Int)) ∧ w'.cell? ⟨bl, 0, none⟩ = some (.pointer (some ⟨p, 0, none⟩))) (fun _ => true) (by kernel_rfl) ⟨c2, c5, cm, cl⟩ (fun hHeld => ?_)
  refine wpAnyN_take (i := 0) (v := ?_) rfl (by kernel_rfl) (by kernel_rfl) (by kernel_rfl) (by kernel_rfl) (fun _ _ _ h => h) (Or.inl ⟨by rfl, ?_⟩) (by assumption) ?_
  rotate_left
  · intro w hSw; ((try dsimp only at hSw); go_simp; (try with_reducible rfl))
  simp only [Act.put, List.setIfInBounds_toArray, List.set_cons_zero, List.set_cons_succ]
  refine wpAnyN_take (i := 1) (v := ?_) rfl (by kernel_rfl) (by kernel_rfl) (by kernel_rfl) (by kernel_rfl) (fun _ _ _ h => h) (Or.inl ⟨by rfl, ?_⟩) (by assumption) ?_
  rotate_left
  · intro w hSw; ((try dsimp only at hSw); go_simp; (try with_reducible rfl))
  simp only [Act.put, List.setIfInBounds_toArray, List.set_cons_zero, List.set_cons_succ]
  refine wpAnyN_take (i := 2) (v := ?_) rfl (by kernel_rfl) (by kernel_rfl) (by kernel_rfl) (by kernel_rfl) (fun _ _ _ h => h) (Or.inl ⟨by rfl, ?_⟩) (by assumption) ?_
  rotate_left
  · intro w hSw; ((try dsimp only at hSw); go_simp; (try with_reducible rfl))
  simp only [Act.put, List.setIfInBounds_toArray, List.set_cons_zero, List.set_cons_succ]
  refine wpAnyN_take (i := 3) (v := ?_) rfl (by kernel_rfl) (by kernel_rfl) (by kernel_rfl) (by kernel_rfl) (fun _ _ _ h => h) (Or.inl ⟨by rfl, ?_⟩) (by assumption) ?_
  rotate_left
  · intro w hSw; ((try dsimp only at hSw); go_simp; (try with_reducible rfl))
  simp only [Act.put, List.setIfInBounds_toArray, List.set_cons_zero, List.set_cons_succ]
  refine wpAnyN_take (i := 4) (v := ?_) rfl (by kernel_rfl) (by kernel_rfl) (by kernel_rfl) (by kernel_rfl) (fun _ _ _ h => h) (Or.inl ⟨by rfl, ?_⟩) (by assumption) ?_
  rotate_left
  · intro w hSw; ((try dsimp only at hSw); go_simp; (try with_reducible rfl))
  simp only [Act.put, List.setIfInBounds_toArray, List.set_cons_zero, List.set_cons_succ]
  refine wpAnyN_take (i := 5) (v := ?_) rfl (by kernel_rfl) (by kernel_rfl) (by kernel_rfl) (by kernel_rfl) (fun _ _ _ h => h) (Or.inl ⟨by rfl, ?_⟩) (by assumption) ?_
  rotate_left
  · intro w hSw; ((try dsimp only at hSw); go_simp; (try with_reducible rfl))
  simp only [Act.put, List.setIfInBounds_toArray, List.set_cons_zero, List.set_cons_succ]
  refine wpAnyN_take (i := 6) (v := ?_) rfl (by kernel_rfl) (by kernel_rfl) (by kernel_rfl) (by kernel_rfl) (fun _ _ _ h => h) (Or.inl ⟨by rfl, ?_⟩) (by assumption) ?_
  rotate_left
  · intro w hSw; ((try dsimp only at hSw); go_simp; (try with_reducible rfl))
  simp only [Act.put, List.setIfInBounds_toArray, List.set_cons_zero, List.set_cons_succ]
  refine wpAnyN_take (i := 7) (v := ?_) rfl (by kernel_rfl) (by kernel_rfl) (by kernel_rfl) (by kernel_rfl) (fun _ _ _ h => h) (Or.inl ⟨by rfl, ?_⟩) (by assumption) ?_
  rotate_left
  · intro w hSw; ((try dsimp only at hSw); go_simp; (try with_reducible rfl))
  simp only [Act.put, List.setIfInBounds_toArray, List.set_cons_zero, List.set_cons_succ]
  refine wpAnyN_take (i := 8) (v := ?_) rfl (by kernel_rfl) (by kernel_rfl) (by kernel_rfl) (by kernel_rfl) (fun _ _ _ h => h) (Or.inl ⟨by rfl, ?_⟩) (by assumption) ?_
  rotate_left
  · intro w hSw; ((try dsimp only at hSw); go_simp; (try with_reducible rfl))
  simp only [Act.put, List.setIfInBounds_toArray, List.set_cons_zero, List.set_cons_succ]
  refine wpAnyN_take (i := 9) (v := ?_) rfl (by kernel_rfl) (by kernel_rfl) (by kernel_rfl) (by kernel_rfl) (fun _ _ _ h => h) (Or.inl ⟨by rfl, ?_⟩) (by assumption) ?_
  rotate_left
  · intro w hSw; ((try dsimp only at hSw); go_simp; (try with_reducible rfl))
  simp only [Act.put, List.setIfInBounds_toArray, List.set_cons_zero, List.set_cons_succ]
  refine wpAnyN_take (i := 10) (v := ?_) rfl (by kernel_rfl) (by kernel_rfl) (by kernel_rfl) (by kernel_rfl) (fun _ _ _ h => h) (Or.inl ⟨by rfl, ?_⟩) (by assumption) ?_
  rotate_left
  · intro w hSw; ((try dsimp only at hSw); go_simp; (try with_reducible rfl))
  simp only [Act.put, List.setIfInBounds_toArray, List.set_cons_zero, List.set_cons_succ]
  refine wpAnyN_done (by kernel_rfl) ?_ _
  rw [wrap_i64 (n := ((n - e : Nat) : Int)) (by omega) (by omega)]
  clear hHeld c2 c5 cm cl hsub
  by_cases hlt : n - e < m
  · rw [if_pos hlt] at hEH
    have hd : decide (((n - e : Nat) : Int) < (m : Int)) = true := by simp; omega
    rw [hd]
    clear hd
    go_wp2_with fail
    go_ret
    rw [hEH.out]
    exact ⟨_, o, rfl, hst, rfl, hld⟩
  · rw [if_neg hlt] at hEH
    have hd : decide (((n - e : Nat) : Int) < (m : Int)) = false := by simp; omega
    rw [hd]
    clear hd
    go_wp2_with fail
    go_ret
    rw [hEH.out]
    exact ⟨_, o, rfl, hst, rfl, hld⟩

set_option maxRecDepth 100000 in
set_option maxHeartbeats 3200000 in
theorem step2_any (hL : L ≠ 0) (hD : D ≠ 0) (hLD : L ≠ D) (h : LD w o L D p pd s) (hrow : s.2.row.length ≤ 900000) (bl : Nat) (hl : Box w o bl 57 (.pointer (some ⟨p, 0, none⟩))) :
    Calls Try.prog 83 #[.pointer (some ⟨bl, 0, none⟩)] w (Ret (In L D) w o fun v w' o' => v = .int .i64 (LogM.step2 s).2 ∧ LD w' o' L D p pd (LogM.step2 s).1) := by
  have hN : ¬ In L D 0 := fun h => by rcases h with h | h <;> omega
  obtain ⟨c0, c1, c2, c3, c4, c5, c7⟩ := h.1.held
  have cl := hl.cell
  have hE : LogM.step2 s = if s.1.headed then (s, 0) else (({ (LogM.head s).1.1 with headed := (LogM.head s).2 == 0 }, (LogM.head s).1.2), (LogM.head s).2) := by unfold LogM.step2; rfl
  have hEH := hidden hE
  have hh := head_any hL hD hLD h hrow
  clear hE c0 c1 c2 c3 c5 c7
  cases hd : s.1.headed with
  | true =>
    rw [hd] at c4 hEH
    rw [if_pos rfl] at hEH
    go_enter Try.func83, Try.ntmps83
    go_wp2_with fail
    go_ret
    rw [hEH.out]
    exact ⟨_, o, rfl, Step.refl _ _ _, rfl, h⟩
  | false =>
    rw [hd] at c4 hEH
    rw [if_neg (by simp)] at hEH
    obtain ⟨r, hr⟩ : ∃ r, LogM.head s = r := ⟨_, rfl⟩
    rw [hr] at hEH hh
    clear hr hd
    go_enter Try.func83, Try.ntmps83
    go_wp2_with fail
    refine hh.mono ?_; rintro e w1 ⟨v1, o1, rfl, hs1, rfl, hld1⟩
    have cl1 := (hl.step hs1 hN).cell
    obtain ⟨rv, vs, -, hf, -⟩ := hld1.1.open
    obtain ⟨-, -, -, -, d4, -⟩ := hld1.1.held
    have f4 := hf 4
    have hset := hld1.1.set (m' := { r.1.1 with headed := r.2 == 0 }) hL 4 (.bool (r.2 == 0)) (fun rv => rfl) rfl hld1.1.wf
    have hst4 := hld1.1.setStep 4 (.bool (r.2 == 0))
    have hd4 := hld1.2.step hst4 (fun e => hLD e.symm)
    have hs2 := hs1.trans hst4.inL
    clear hf hh hs1 hst4 hld1 c4 cl
    obtain ⟨⟨m1, d1⟩, e1⟩ := r
    simp only at hset hd4 hs2 hEH d4
    go_wp2_with fail
    go_ret
    rw [hEH.out]
    exact ⟨_, o1, rfl, hs2, rfl, hset, hd4⟩

set_option maxRecDepth 100000 in
set_option maxHeartbeats 3200000 in
theorem reset2_any (hL : L ≠ 0) (hLD : L ≠ D) (h : LD w o L D p pd s) (bl : Nat) (hl : Box w o bl 57 (.pointer (some ⟨p, 0, none⟩))) :
    Calls Try.prog 93 #[.pointer (some ⟨bl, 0, none⟩)] w (Ret (In L D) w o fun v w' o' => v = .int .i64 (LogM.reset2 s).2 ∧ LD w' o' L D p pd (LogM.reset2 s).1) := by
  obtain ⟨m, d⟩ := s
  obtain ⟨hlg, hdk⟩ := h
  simp only at hlg hdk
  have hwf := hlg.wf
  have cl := hl.cell
  have hblp : bl ≠ p := by rintro rfl; have h1 := hl.2; have h2 := hlg.ofL; omega
  have hpl := hlg.lt
  have hfin : Hid (LogAt ((((w.drew.setCell ⟨p, 4, none⟩ (.bool true)).setCell ⟨p, 6, none⟩ (.slice none 0 0))).setCell ⟨p, 5, none⟩ (.int .i64 1)) o L p pd (LogM.reset2 (m, d)).1.1 ∧
      Step (Only L) w o ((((w.drew.setCell ⟨p, 4, none⟩ (.bool true)).setCell ⟨p, 6, none⟩ (.slice none 0 0))).setCell ⟨p, 5, none⟩ (.int .i64 1)) o) := by
    have h1 := hlg.set (m' := { m with headed := true }) hL 4 (.bool true) (fun rv => rfl) rfl hwf
    have s1 := hlg.setStep 4 (.bool true)
    have hdr : Step Nobody w o w.drew o := (Step.refl _ _ _).drew
    have h0 := hlg.step hdr (fun h => h) (fun h => h)
    obtain ⟨rv, vs, hp, hr, hv, op, orr, _⟩ := h0
    have hst : Step (Only L) w.drew o ((((w.drew.setCell ⟨p, 4, none⟩ (.bool true)).setCell ⟨p, 6, none⟩ (.slice none 0 0))).setCell ⟨p, 5, none⟩ (.int .i64 1)) o :=
      (((Step.refl (Only L) w.drew o).setCell (a := ⟨p, 4, none⟩) _ (.inl (by show (o p).1 = L; rw [op]))).setCell (a := ⟨p, 6, none⟩) _ (.inl (by show (o p).1 = L; rw [op]))).setCell (a := ⟨p, 5, none⟩) _ (.inl (by show (o p).1 = L; rw [op]))
    refine ⟨?_, (hdr.only L).trans hst⟩
    refine ⟨.slice none 0 0, [], heap_setCell_at (i := 5) _ (heap_setCell_at (i := 6) _ (heap_setCell_at (i := 4) _ hp)), World.ownsRow_nil _ _ _ _, RowsT.nil _ _, op, fun k hk => by simp [Value.ownBlock] at hk, ?_⟩
    obtain ⟨g1, g2, g3, g4, g5, g6, g7⟩ := hwf
    exact ⟨g1, g2, g3, by show 1 ≤ 1; omega, by show 1 ≤ m.n; omega, by show 0 + 1 ≤ 1; omega, fun r hr => by simp [LogM.reset2] at hr⟩
  have hE : LogM.reset2 (m, d) = (({ m with headed := true, records := [], end' := 1 }, d), 0) := rfl
  have hEH := hidden hE
  have hdk2 := fun x (hx : Step (Only L) w o x o) => hdk.step hx (fun e => hLD e.symm)
  have hdkH := hidden hdk2
  obtain ⟨rv, vs, ⟨c0, c1, c2, c3, c4, c5, c6, c7⟩, hf, -⟩ := hlg.open
  have f4 := hf 4
  have f5 := hf 5
  have f6 := hf 6
  clear hE hdk2 hf c0 c1 c2 c3 c7 hlg hdk hl
  go_enter Try.func93, Try.ntmps93
  go_wp2_with fail
  refine wp_region_need (fun w' => w'.cell? ⟨bl, 0, none⟩ = some (.pointer (some ⟨p, 0, none⟩))) (fun _ => true) (by kernel_rfl) cl (fun hHeld => ?_)
  refine wpAnyN_take (i := 0) (v := ?_) rfl (by kernel_rfl) (by kernel_rfl) (by kernel_rfl) (by kernel_rfl) (fun _ _ _ h => h) (Or.inl ⟨by rfl, ?_⟩) (by assumption) ?_
  rotate_left
  · intro w hSw; ((try dsimp only at hSw); go_simp; (try with_reducible rfl))
  simp only [Act.put, List.setIfInBounds_toArray, List.set_cons_zero, List.set_cons_succ]
  refine wpAnyN_take (i := 1) (v := ?_) rfl (by kernel_rfl) (by kernel_rfl) (by kernel_rfl) (by kernel_rfl) (fun _ _ _ h => h) (Or.inl ⟨by rfl, ?_⟩) (by assumption) ?_
  rotate_left
  · intro w hSw; ((try dsimp only at hSw); go_simp; (try with_reducible rfl))
  simp only [Act.put, List.setIfInBounds_toArray, List.set_cons_zero, List.set_cons_succ]
  refine wpAnyN_take (i := 2) (v := ?_) rfl (by kernel_rfl) (by kernel_rfl) (by kernel_rfl) (by kernel_rfl) (fun _ _ _ h => h) (Or.inl ⟨by rfl, ?_⟩) (by assumption) ?_
  rotate_left
  · intro w hSw; ((try dsimp only at hSw); go_simp; (try with_reducible rfl))
  simp only [Act.put, List.setIfInBounds_toArray, List.set_cons_zero, List.set_cons_succ]
  refine wpAnyN_take (i := 3) (v := ?_) rfl (by kernel_rfl) (by kernel_rfl) (by kernel_rfl) (by kernel_rfl) (fun _ _ _ h => h) (Or.inl ⟨by rfl, ?_⟩) (by assumption) ?_
  rotate_left
  · intro w hSw; ((try dsimp only at hSw); go_simp; (try with_reducible rfl))
  simp only [Act.put, List.setIfInBounds_toArray, List.set_cons_zero, List.set_cons_succ]
  refine wpAnyN_take (i := 4) (v := ?_) rfl (by kernel_rfl) (by kernel_rfl) (by kernel_rfl) (by kernel_rfl) (fun _ _ _ h => h) (Or.inl ⟨by rfl, ?_⟩) (by assumption) ?_
  rotate_left
  · intro w hSw; ((try dsimp only at hSw); go_simp; (try with_reducible rfl))
  simp only [Act.put, List.setIfInBounds_toArray, List.set_cons_zero, List.set_cons_succ]
  have k1 : (w.drew.setCell ⟨p, 4, none⟩ (.bool true)).cell? ⟨bl, 0, none⟩ = some (.pointer (some ⟨p, 0, none⟩)) := by rw [World.cell?_setCell_other _ _ _ _ (by simp)]; exact hHeld
  have k2 : ((w.drew.setCell ⟨p, 4, none⟩ (.bool true)).setCell ⟨p, 6, none⟩ (.slice none 0 0)).cell? ⟨bl, 0, none⟩ = some (.pointer (some ⟨p, 0, none⟩)) := by rw [World.cell?_setCell_other _ _ _ _ (by simp)]; exact k1
  have k3 : (((w.drew.setCell ⟨p, 4, none⟩ (.bool true)).setCell ⟨p, 6, none⟩ (.slice none 0 0)).setCell ⟨p, 5, none⟩ (.int .i64 1)).cell? ⟨bl, 0, none⟩ = some (.pointer (some ⟨p, 0, none⟩)) := by rw [World.cell?_setCell_other _ _ _ _ (by simp)]; exact k2
  have K1 := hidden k1
  have K2 := hidden k2
  have K3 := hidden k3
  clear k1 k2 k3 hHeld cl
  refine wpAnyN_one (i := 5) rfl (by kernel_rfl) ?_
  go_wp2_with fail
  refine ⟨fun _ => K1.out, ?_⟩
  have kk1 := K1.out
  refine wpAnyN_take (i := 6) (v := ?_) rfl (by kernel_rfl) (by kernel_rfl) (by kernel_rfl) (by kernel_rfl) (fun _ _ _ h => h) (Or.inl ⟨by rfl, ?_⟩) (by assumption) ?_
  rotate_left
  · intro w hSw; ((try dsimp only at hSw); go_simp; (try with_reducible rfl))
  simp only [Act.put, List.setIfInBounds_toArray, List.set_cons_zero, List.set_cons_succ]
  refine wpAnyN_take (i := 7) (v := ?_) rfl (by kernel_rfl) (by kernel_rfl) (by kernel_rfl) (by kernel_rfl) (fun _ _ _ h => h) (Or.inl ⟨by rfl, ?_⟩) (by assumption) ?_
  rotate_left
  · intro w hSw; ((try dsimp only at hSw); go_simp; (try with_reducible rfl))
  simp only [Act.put, List.setIfInBounds_toArray, List.set_cons_zero, List.set_cons_succ]
  clear kk1
  refine wpAnyN_one (i := 8) rfl (by kernel_rfl) ?_
  go_wp2_with fail
  refine ⟨fun _ => K2.out, ?_⟩
  have kk2 := K2.out
  refine wpAnyN_take (i := 9) (v := ?_) rfl (by kernel_rfl) (by kernel_rfl) (by kernel_rfl) (by kernel_rfl) (fun _ _ _ h => h) (Or.inl ⟨by rfl, ?_⟩) (by assumption) ?_
  rotate_left
  · intro w hSw; ((try dsimp only at hSw); go_simp; (try with_reducible rfl))
  simp only [Act.put, List.setIfInBounds_toArray, List.set_cons_zero, List.set_cons_succ]
  refine wpAnyN_take (i := 10) (v := ?_) rfl (by kernel_rfl) (by kernel_rfl) (by kernel_rfl) (by kernel_rfl) (fun _ _ _ h => h) (Or.inl ⟨by rfl, ?_⟩) (by assumption) ?_
  rotate_left
  · intro w hSw; ((try dsimp only at hSw); go_simp; (try with_reducible rfl))
  simp only [Act.put, List.setIfInBounds_toArray, List.set_cons_zero, List.set_cons_succ]
  clear kk2
  refine wpAnyN_one (i := 11) rfl (by kernel_rfl) ?_
  go_wp2_with fail
  refine ⟨fun _ => K3.out, ?_⟩
  refine wpAnyN_done (by kernel_rfl) ?_ _
  clear c4 c5 c6 f4 f5 f6
  go_wp2_with fail
  go_ret
  rw [hEH.out]
  refine ⟨_, o, rfl, hfin.out.2.inL, rfl, ?_, hdkH.out _ hfin.out.2⟩
  have h := hfin.out.1
  rw [hEH.out] at h
  exact h
end
end Go.Proofs.YtfgggkheadfiaaaR
