/- Contract: the records are read from the leaves. -/
import Derived.Test.YtfgggkheadfiaaaRPg2
import Derived.Test.YtfgggkheadfiaaaRPg4
import Derived.Test.YtfgggkheadfiaaaRPg5
namespace Go.Proofs.YtfgggkheadfiaaaR
open Go Go.RowKit
attribute [local go_sem ↓] Go.wp_at_zero Go.wp_at_succ

/-- v reads as the leaves ls: plain data. -/
def LvsAt (w : World) (o : Own) (v : Value) (ls : List LeafM) : Prop := ∃ b off cap bvs, v = .slice (some ⟨b, off, none⟩) ls.length cap ∧ ls.length ≤ cap ∧ cap ≤ maxLen ∧ (o b).1 = 0 ∧ b < w.heap.size ∧ RowsB w o bvs (ls.map LeafM.bytes) ∧
  ∀ (i : Nat) x bv, ls[i]? = some x → bvs[i]? = some bv → w.rangeAt b (off + i * 4) (leafV x bv)
theorem LvsAt.step {T : Nat → Prop} {w w' : World} {o o' : Own} {v : Value} {ls : List LeafM} (h : LvsAt w o v ls) (s : Step T w o w' o') (hT : ¬ T 0) : LvsAt w' o' v ls := by
  obtain ⟨b, off, cap, bvs, hv, h1, h2, h3, h4, h5, h6⟩ := h
  exact ⟨b, off, cap, bvs, hv, h1, h2, by rw [s.own b h4]; exact h3, Nat.lt_of_lt_of_le h4 s.size, h5.step s hT, fun i x bv hx hb => range_same (h6 i x bv hx hb) (s.block b h4 (by rw [h3]; exact hT))⟩
theorem LvsAt.at {w : World} {o : Own} {v : Value} {ls : List LeafM} (h : LvsAt w o v ls) : ∃ b off cap, v = .slice (some ⟨b, off, none⟩) ls.length cap ∧ ls.length ≤ cap ∧ cap ≤ maxLen ∧
    ∀ i x, ls[i]? = some x → ∃ bv, Bytes w o bv x.bytes ∧ w.rangeAt b (off + i * 4) (leafV x bv) := by
  obtain ⟨b, off, cap, bvs, hv, h1, h2, h3, h4, h5, h6⟩ := h
  refine ⟨b, off, cap, hv, h1, h2, fun i x hx => ?_⟩
  have hi : i < bvs.length := by rw [h5.1, List.length_map]; exact (List.getElem?_eq_some_iff.1 hx).1
  exact ⟨bvs[i], h5.2 i _ _ (List.getElem?_eq_getElem hi) (by rw [List.getElem?_map, hx]; rfl), h6 i x _ hx (List.getElem?_eq_getElem hi)⟩
def endOf (p n : Nat) (w : World) : Nat := match w.cell? ⟨p, 5, none⟩ with
  | some (.int _ e) => n - e.toNat
  | _ => 0
theorem load139 {w : World} {b off : Nat} {x : LeafM} {bv : Value} (hr : w.rangeAt b off (leafV x bv)) : (Instr.loadAt 139 (.pointer (some ⟨b, off, none⟩))).run Try.prog w = .ok (.agg (leafV x bv).toArray) w := by
  simp only [Instr.loadAt, Instr.sureAddr, Sem.run_bind, Sem.run_pure, Result.andThen_ok]
  exact run_loadVar_mid w b off 139 (leafV x bv) _ hr Try.underlying139 rfl (by kernel_rfl)
theorem zc139 : ((Try.prog.info? 139).bind (·.zero)).map (·.cells) = some #[.int .u64 0, .int .i64 0, .int .i64 0, .slice none 0 0] := by kernel_rfl
theorem one_leafV {w : World} {o : Own} {x : LeafM} {bv : Value} (h : Bytes w o bv x.bytes) : (leafV x bv).all (·.oneCell') = true := by
  obtain ⟨a, c, rfl⟩ := slc_form h; rfl
section
variable {w : World} {o : Own} {L p pd : Nat} {m : LogM}
set_option maxRecDepth 100000 in
set_option maxHeartbeats 6400000 in
theorem lread_any (hL : L ≠ 0) (h : LogAt w o L p pd m) (ls : List LeafM) (lv : Value) (hlv : LvsAt w o lv ls) (h1 : 1 ≤ ls.length) (hn : ls.length ≤ m.n) (hb : ∀ x ∈ ls, x.bytes.length ≤ 480 ∧ x.of' < 65536 ∧ x.at' < 65536) (he : m.end' = 1) (hrs : m.records = []) :
    Calls Try.prog 79 #[.pointer (some ⟨p, 0, none⟩), lv] w (Ret (Only L) w o fun v w' o' => v = .tuple #[] ∧ LogAt w' o' L p pd { m with records := (LogM.readAll ls).2.2, end' := (LogM.readAll ls).1 }) := by
  have hN : ¬ Only L 0 := fun h => hL h.symm
  obtain ⟨g1, g2, g3, -⟩ := h.wf
  obtain ⟨b, off, cap, rfl, hcap, hcm, hat⟩ := hlv.at
  obtain ⟨x0, hx0⟩ : ∃ x0, ls[0]? = some x0 := ⟨_, List.getElem?_eq_getElem (by omega)⟩
  obtain ⟨bv0, hbv0, hr0⟩ := hat 0 x0 hx0
  have c00 := hr0 0 _ rfl
  simp only [Nat.zero_mul, Nat.add_zero] at c00
  have hhs : LogM.headStamp ls = x0.stamp := by
    cases ls with
    | nil => simp at hx0
    | cons y r => simp only [List.getElem?_cons_zero, Option.some.injEq] at hx0; subst hx0; rfl
  obtain ⟨N, hNl⟩ : ∃ N, ls.length = N := ⟨_, rfl⟩
  have hatH := hidden hat
  have hlvH := hidden hlv
  have hbH := hidden hb
  have hNH := hidden hNl
  have hfin : Hid (LogM.readAll ls = LogM.readL ls N (1, x0.stamp, [])) := hidden (by unfold LogM.readAll; rw [hhs, hNl])
  have hl0 : LogAt w o L p pd { m with records := [], end' := 1 } := by
    have : ({ m with records := [], end' := 1 } : LogM) = m := by cases m; simp only at he hrs; subst he; subst hrs; rfl
    rw [this]; exact h
  rw [hNl] at h1 hn hcap hlvH ⊢
  have hcm2 : (cap : Int) ≤ 9223372036854775807 := by simp only [maxLen] at hcm; omega
  have hcap2 : (N : Int) ≤ (cap : Int) := by omega
  have hN2 : (N : Int) ≤ 2000 := by omega
  have hN1 : (0 : Int) < (N : Int) := by omega
  clear hat hlv hb hNl hr0 hbv0 hhs hx0 h he hrs hcm
  go_enter Try.func79, Try.ntmps79
  go_wp2_with fail
  go_loopw [4] (fun s4 wr => ∃ (f e : Nat) (last : BitVec 64) (rs : List (List UInt8)) (o' : Own), s4 = .int .u64 (last.toNat : Int) ∧ Step (Only L) w o wr o' ∧ LogAt wr o' L p pd { m with records := rs, end' := e } ∧ N - e ≤ f ∧ 1 ≤ e ∧ e ≤ N ∧ Hid (LogM.readL ls N (1, x0.stamp, []) = LogM.readL ls f (e, last, rs)))
    (fun _ wr => endOf p N wr)
  case atStart => exact ⟨N, 1, x0.stamp, [], o, rfl, Step.refl _ _ _, hl0, by omega, Nat.le_refl _, h1, hidden rfl⟩
  case round =>
    obtain ⟨f, e, last, rs, o1, rfl, hst, hl, hf, he1, heN, hR⟩ := hrel
    clear hl0 c00
    have hheld := hl.held
    obtain ⟨-, -, -, -, -, d5, -⟩ := hheld
    simp only at d5
    have d5e : endOf p N wr = N - e := by unfold endOf; rw [d5]; simp
    have d5H := hidden d5e
    clear d5e
    by_cases hlt : e < N
    · obtain ⟨x, hx⟩ : ∃ x, ls[e]? = some x := ⟨_, List.getElem?_eq_getElem (by rw [hNH.out]; exact hlt)⟩
      have hlv1 := hlvH.out.step hst hN
      obtain ⟨b', off', cap', hv', -, -, hat'⟩ := hlv1.at
      simp only [Value.slice.injEq, Option.some.injEq, Addr.mk.injEq] at hv'
      obtain ⟨⟨rfl, rfl, -⟩, -, rfl⟩ := hv'
      obtain ⟨bv, hbv, hr⟩ := hat' e x hx
      have hatW := hidden hat'
      obtain ⟨hxl, hxo, hxa⟩ := hbH.out x (List.mem_of_getElem? hx)
      have hld := hidden (load139 hr)
      have hal := hidden (run_alloc_zero (P := Try.prog) wr 139 _ zc139)
      have hsw := setCells_alloc_whole wr #[.int .u64 0, .int .i64 0, .int .i64 0, .slice none 0 0] 139 (leafV x bv) rfl
      obtain ⟨hso, -⟩ := run_store_agg (P := Try.prog) (ty := 139) (vs := leafV x bv) (heap_alloc_new wr (.cells [.int .u64 0, .int .i64 0, .int .i64 0, .slice none 0 0].toArray 139)) rfl (by kernel_rfl) (one_leafV hbv)
      rw [hsw] at hso
      have hsoH := hidden hso
      have hsa := (Step.refl Nobody wr o1).alloc (.cells (leafV x bv).toArray 139) (0, 0)
      have hxb : (wr.alloc (.cells (leafV x bv).toArray 139)).heap[wr.heap.size]? = some (.cells (leafV x bv).toArray 139 (0, 0)) := heap_alloc_new wr _
      have hxo1 : tagAt o1 wr.heap.size (0, 0) wr.heap.size = (0, 0) := tagAt_same _ _ _
      have hl1 := hl.step hsa (fun h => h) (fun h => h)
      have hlv2 := hlv1.step hsa (fun h => h)
      have hbv1 := hbv.step hsa (fun h => h)
      have hst1 := hst.trans (hsa.only L)
      have helt : (e : Int) < (N : Int) := by omega
      have hxH := hidden hx
      clear hsw hso hat' hlv1 hr hbv hx
      go_wp2_with (first
        | ((with_reducible apply lit_load); exact hld.out; simp only [Act.put, List.setIfInBounds_toArray, List.set_cons_zero, List.set_cons_succ])
        | ((with_reducible apply lit_alloc); exact hal.out; simp only [Act.put, List.setIfInBounds_toArray, List.set_cons_zero, List.set_cons_succ])
        | ((with_reducible apply lit_store); exact hsoH.out; simp only [Act.put]))
      obtain ⟨W1, hW1⟩ : ∃ W1, wr.alloc (.cells (leafV x bv).toArray 139) = W1 := ⟨_, rfl⟩
      have hfinR : ∀ (w' : World) (o' : Own), Step (Only L) w o w' o' → LogAt w' o' L p pd { m with records := rs, end' := e } → LogM.accept ls e last = none →
          Ret (Only L) w o (fun v w' o' => v = .tuple #[] ∧ LogAt w' o' L p pd { m with records := (LogM.readAll ls).2.2, end' := (LogM.readAll ls).1 }) (.returned (.tuple #[])) w' := fun w' o' hs hl hacc => by
        rw [hfin.out, hR.out, LogM.readL_stop (s := (e, last, rs)) hacc]
        exact ⟨_, o', rfl, hs, rfl, hl⟩
      have hfinH := hidden hfinR
      clear hfinR
      rw [hW1] at hsa hxb hl1 hlv2 hbv1 hst1 ⊢
      generalize tagAt o1 wr.heap.size (0, 0) = o2 at *
      obtain ⟨xb, hxbe⟩ : ∃ xb, wr.heap.size = xb := ⟨_, rfl⟩
      have hxbge : w.heap.size ≤ xb := by rw [← hxbe]; exact hst.size
      rw [hxbe] at hxb hxo1 ⊢
      clear hW1 hxbe hld hal hsoH hsa d5
      have y0 := cell_of_block hxb 0
      have y2 := cell_of_block hxb 2
      simp only [leafV, List.getElem?_cons_zero, List.getElem?_cons_succ] at y0 y2
      have hheld := hl1.held
      obtain ⟨-, -, -, -, -, d5, -⟩ := hheld
      simp only at d5
      have hdr : Step Nobody W1 o2 W1.drew o2 := (Step.refl _ _ _).drew
      have hst2 := hst1.trans (hdr.only L)
      have hl2 := hl1.step hdr (fun h => h) (fun h => h)
      have hsubN : (N : Int) - (e : Int) = ((N - e : Nat) : Int) := by omega
      have hneq : ¬ (N ≤ e) := by omega
      by_cases hA : x.stamp.toNat ≤ last.toNat
      · have hacc : LogM.accept ls e last = none := by unfold LogM.accept; rw [hxH.out]; simp only; rw [if_pos (.inl hA)]
        have hAi : (x.stamp.toNat : Int) ≤ (last.toNat : Int) := by omega
        have haccH := hidden hacc
        clear hacc
        refine wp_region_need (fun w' => w'.cell? ⟨xb, 0, none⟩ = some (.int .u64 (x.stamp.toNat : Int)) ∧ w'.cell? ⟨xb, 2, none⟩ = some (.int .i64 (x.of' : Int)) ∧ w'.cell? ⟨p, 5, none⟩ = some (.int .i64 (e : Int))) (fun _ => true) (by kernel_rfl) ⟨y0, y2, d5⟩ (fun hHeld => ?_)
        refine wpAnyN_take (i := 0) (v := ?_) rfl (by kernel_rfl) (by kernel_rfl) (by kernel_rfl) (by kernel_rfl) (fun _ _ _ h => h) (Or.inl ⟨by rfl, ?_⟩) (by assumption) ?_
        rotate_left
        · intro w hSw; ((try dsimp only at hSw); go_simp; (try with_reducible rfl))
        simp only [Act.put, List.setIfInBounds_toArray, List.set_cons_zero, List.set_cons_succ]
        refine wpAnyN_take (i := 1) (v := ?_) rfl (by kernel_rfl) (by kernel_rfl) (by kernel_rfl) (by kernel_rfl) (fun _ _ _ h => h) (Or.inl ⟨by rfl, ?_⟩) (by assumption) ?_
        rotate_left
        · intro w hSw; ((try dsimp only at hSw); go_simp; (try with_reducible rfl))
        simp only [Act.put, List.setIfInBounds_toArray, List.set_cons_zero, List.set_cons_succ]
        refine wpAnyN_take (i := 2) (v := ?_) rfl (by kernel_rfl) (by kernel_rfl) (by kernel_rfl) (by kernel_rfl) (fun _ _ _ h => h) (Or.inl ⟨by rfl, ?_⟩) (by assumption) ?_
        rotate_left
        · intro w hSw; ((try dsimp only at hSw); go_simp; (try with_reducible rfl))
        simp only [Act.put, List.setIfInBounds_toArray, List.set_cons_zero, List.set_cons_succ]
        refine wpAnyN_take (i := 3) (v := ?_) rfl (by kernel_rfl) (by kernel_rfl) (by kernel_rfl) (by kernel_rfl) (fun _ _ _ h => h) (Or.inl ⟨by rfl, ?_⟩) (by assumption) ?_
        rotate_left
        · intro w hSw; ((try dsimp only at hSw); go_simp; (try with_reducible rfl))
        simp only [Act.put, List.setIfInBounds_toArray, List.set_cons_zero, List.set_cons_succ]
        refine wpAnyN_take (i := 4) (v := ?_) rfl (by kernel_rfl) (by kernel_rfl) (by kernel_rfl) (by kernel_rfl) (fun _ _ _ h => h) (Or.inl ⟨by rfl, ?_⟩) (by assumption) ?_
        rotate_left
        · intro w hSw; ((try dsimp only at hSw); go_simp; (try with_reducible rfl))
        simp only [Act.put, List.setIfInBounds_toArray, List.set_cons_zero, List.set_cons_succ]
        refine wpAnyN_take (i := 5) (v := undef) rfl (by kernel_rfl) (by kernel_rfl) (by kernel_rfl) (by kernel_rfl) (fun _ _ _ h => h) (Or.inr ⟨by rfl, rfl⟩) (by assumption) ?_
        simp only [Act.put, List.setIfInBounds_toArray, List.set_cons_zero, List.set_cons_succ]
        refine wpAnyN_take (i := 6) (v := undef) rfl (by kernel_rfl) (by kernel_rfl) (by kernel_rfl) (by kernel_rfl) (fun _ _ _ h => h) (Or.inr ⟨by rfl, rfl⟩) (by assumption) ?_
        simp only [Act.put, List.setIfInBounds_toArray, List.set_cons_zero, List.set_cons_succ]
        refine wpAnyN_take (i := 7) (v := undef) rfl (by kernel_rfl) (by kernel_rfl) (by kernel_rfl) (by kernel_rfl) (fun _ _ _ h => h) (Or.inr ⟨by rfl, rfl⟩) (by assumption) ?_
        simp only [Act.put, List.setIfInBounds_toArray, List.set_cons_zero, List.set_cons_succ]
        refine wpAnyN_take (i := 8) (v := ?_) rfl (by kernel_rfl) (by kernel_rfl) (by kernel_rfl) (by kernel_rfl) (fun _ _ _ h => h) (Or.inl ⟨by rfl, ?_⟩) (by assumption) ?_
        rotate_left
        · intro w hSw; ((try dsimp only at hSw); go_simp; (try with_reducible rfl))
        simp only [Act.put, List.setIfInBounds_toArray, List.set_cons_zero, List.set_cons_succ]
        refine wpAnyN_take (i := 9) (v := ?_) rfl (by kernel_rfl) (by kernel_rfl) (by kernel_rfl) (by kernel_rfl) (fun _ _ _ h => h) (Or.inl ⟨by rfl, ?_⟩) (by assumption) ?_
        rotate_left
        · intro w hSw; ((try dsimp only at hSw); go_simp; (try with_reducible rfl))
        simp only [Act.put, List.setIfInBounds_toArray, List.set_cons_zero, List.set_cons_succ]
        refine wpAnyN_take (i := 10) (v := undef) rfl (by kernel_rfl) (by kernel_rfl) (by kernel_rfl) (by kernel_rfl) (fun _ _ _ h => h) (Or.inr ⟨by rfl, rfl⟩) (by assumption) ?_
        simp only [Act.put, List.setIfInBounds_toArray, List.set_cons_zero, List.set_cons_succ]
        refine wpAnyN_take (i := 11) (v := undef) rfl (by kernel_rfl) (by kernel_rfl) (by kernel_rfl) (by kernel_rfl) (fun _ _ _ h => h) (Or.inr ⟨by rfl, rfl⟩) (by assumption) ?_
        simp only [Act.put, List.setIfInBounds_toArray, List.set_cons_zero, List.set_cons_succ]
        refine wpAnyN_take (i := 12) (v := undef) rfl (by kernel_rfl) (by kernel_rfl) (by kernel_rfl) (by kernel_rfl) (fun _ _ _ h => h) (Or.inr ⟨by rfl, rfl⟩) (by assumption) ?_
        simp only [Act.put, List.setIfInBounds_toArray, List.set_cons_zero, List.set_cons_succ]
        refine wpAnyN_take (i := 13) (v := undef) rfl (by kernel_rfl) (by kernel_rfl) (by kernel_rfl) (by kernel_rfl) (fun _ _ _ h => h) (Or.inr ⟨by rfl, rfl⟩) (by assumption) ?_
        simp only [Act.put, List.setIfInBounds_toArray, List.set_cons_zero, List.set_cons_succ]
        refine wpAnyN_take (i := 14) (v := undef) rfl (by kernel_rfl) (by kernel_rfl) (by kernel_rfl) (by kernel_rfl) (fun _ _ _ h => h) (Or.inr ⟨by rfl, rfl⟩) (by assumption) ?_
        simp only [Act.put, List.setIfInBounds_toArray, List.set_cons_zero, List.set_cons_succ]
        refine wpAnyN_take (i := 15) (v := undef) rfl (by kernel_rfl) (by kernel_rfl) (by kernel_rfl) (by kernel_rfl) (fun _ _ _ h => h) (Or.inr ⟨by rfl, rfl⟩) (by assumption) ?_
        simp only [Act.put, List.setIfInBounds_toArray, List.set_cons_zero, List.set_cons_succ]
        refine wpAnyN_take (i := 16) (v := undef) rfl (by kernel_rfl) (by kernel_rfl) (by kernel_rfl) (by kernel_rfl) (fun _ _ _ h => h) (Or.inr ⟨by rfl, rfl⟩) (by assumption) ?_
        simp only [Act.put, List.setIfInBounds_toArray, List.set_cons_zero, List.set_cons_succ]
        refine wpAnyN_take (i := 17) (v := undef) rfl (by kernel_rfl) (by kernel_rfl) (by kernel_rfl) (by kernel_rfl) (fun _ _ _ h => h) (Or.inr ⟨by rfl, rfl⟩) (by assumption) ?_
        simp only [Act.put, List.setIfInBounds_toArray, List.set_cons_zero, List.set_cons_succ]
        refine wpAnyN_take (i := 18) (v := undef) rfl (by kernel_rfl) (by kernel_rfl) (by kernel_rfl) (by kernel_rfl) (fun _ _ _ h => h) (Or.inr ⟨by rfl, rfl⟩) (by assumption) ?_
        simp only [Act.put, List.setIfInBounds_toArray, List.set_cons_zero, List.set_cons_succ]
        refine wpAnyN_take (i := 19) (v := undef) rfl (by kernel_rfl) (by kernel_rfl) (by kernel_rfl) (by kernel_rfl) (fun _ _ _ h => h) (Or.inr ⟨by rfl, rfl⟩) (by assumption) ?_
        simp only [Act.put, List.setIfInBounds_toArray, List.set_cons_zero, List.set_cons_succ]
        refine wpAnyN_take (i := 20) (v := ?_) rfl (by kernel_rfl) (by kernel_rfl) (by kernel_rfl) (by kernel_rfl) (fun _ _ _ h => h) (Or.inl ⟨by rfl, ?_⟩) (by assumption) ?_
        rotate_left
        · intro w hSw; ((try dsimp only at hSw); go_simp; (try with_reducible rfl))
        simp only [Act.put, List.setIfInBounds_toArray, List.set_cons_zero, List.set_cons_succ]
        refine wpAnyN_done (by kernel_rfl) ?_ _
        go_wp2_with fail
        (try simp only [Exit.inBlock, Exit.then]); refine bodyPost_ret (results_none rfl _ _ _) rfl ?_
        exact hfinH.out _ o2 hst2 hl2 haccH.out
      by_cases hB : x.of' < 1
      · have hacc : LogM.accept ls e last = none := by unfold LogM.accept; rw [hxH.out]; simp only; rw [if_pos (.inr (.inl hB))]
        have hAi : ¬ (x.stamp.toNat : Int) ≤ (last.toNat : Int) := by omega
        have hBi : (x.of' : Int) < 1 := by omega
        have haccH := hidden hacc
        clear hacc
        refine wp_region_need (fun w' => w'.cell? ⟨xb, 0, none⟩ = some (.int .u64 (x.stamp.toNat : Int)) ∧ w'.cell? ⟨xb, 2, none⟩ = some (.int .i64 (x.of' : Int)) ∧ w'.cell? ⟨p, 5, none⟩ = some (.int .i64 (e : Int))) (fun _ => true) (by kernel_rfl) ⟨y0, y2, d5⟩ (fun hHeld => ?_)
        refine wpAnyN_take (i := 0) (v := ?_) rfl (by kernel_rfl) (by kernel_rfl) (by kernel_rfl) (by kernel_rfl) (fun _ _ _ h => h) (Or.inl ⟨by rfl, ?_⟩) (by assumption) ?_
        rotate_left
        · intro w hSw; ((try dsimp only at hSw); go_simp; (try with_reducible rfl))
        simp only [Act.put, List.setIfInBounds_toArray, List.set_cons_zero, List.set_cons_succ]
        refine wpAnyN_take (i := 1) (v := ?_) rfl (by kernel_rfl) (by kernel_rfl) (by kernel_rfl) (by kernel_rfl) (fun _ _ _ h => h) (Or.inl ⟨by rfl, ?_⟩) (by assumption) ?_
        rotate_left
        · intro w hSw; ((try dsimp only at hSw); go_simp; (try with_reducible rfl))
        simp only [Act.put, List.setIfInBounds_toArray, List.set_cons_zero, List.set_cons_succ]
        refine wpAnyN_take (i := 2) (v := ?_) rfl (by kernel_rfl) (by kernel_rfl) (by kernel_rfl) (by kernel_rfl) (fun _ _ _ h => h) (Or.inl ⟨by rfl, ?_⟩) (by assumption) ?_
        rotate_left
        · intro w hSw; ((try dsimp only at hSw); go_simp; (try with_reducible rfl))
        simp only [Act.put, List.setIfInBounds_toArray, List.set_cons_zero, List.set_cons_succ]
        refine wpAnyN_take (i := 3) (v := ?_) rfl (by kernel_rfl) (by kernel_rfl) (by kernel_rfl) (by kernel_rfl) (fun _ _ _ h => h) (Or.inl ⟨by rfl, ?_⟩) (by assumption) ?_
        rotate_left
        · intro w hSw; ((try dsimp only at hSw); go_simp; (try with_reducible rfl))
        simp only [Act.put, List.setIfInBounds_toArray, List.set_cons_zero, List.set_cons_succ]
        refine wpAnyN_take (i := 4) (v := ?_) rfl (by kernel_rfl) (by kernel_rfl) (by kernel_rfl) (by kernel_rfl) (fun _ _ _ h => h) (Or.inl ⟨by rfl, ?_⟩) (by assumption) ?_
        rotate_left
        · intro w hSw; ((try dsimp only at hSw); go_simp; (try with_reducible rfl))
        simp only [Act.put, List.setIfInBounds_toArray, List.set_cons_zero, List.set_cons_succ]
        refine wpAnyN_take (i := 5) (v := ?_) rfl (by kernel_rfl) (by kernel_rfl) (by kernel_rfl) (by kernel_rfl) (fun _ _ _ h => h) (Or.inl ⟨by rfl, ?_⟩) (by assumption) ?_
        rotate_left
        · intro w hSw; ((try dsimp only at hSw); go_simp; (try with_reducible rfl))
        simp only [Act.put, List.setIfInBounds_toArray, List.set_cons_zero, List.set_cons_succ]
        refine wpAnyN_take (i := 6) (v := ?_) rfl (by kernel_rfl) (by kernel_rfl) (by kernel_rfl) (by kernel_rfl) (fun _ _ _ h => h) (Or.inl ⟨by rfl, ?_⟩) (by assumption) ?_
        rotate_left
        · intro w hSw; ((try dsimp only at hSw); go_simp; (try with_reducible rfl))
        simp only [Act.put, List.setIfInBounds_toArray, List.set_cons_zero, List.set_cons_succ]
        refine wpAnyN_take (i := 7) (v := ?_) rfl (by kernel_rfl) (by kernel_rfl) (by kernel_rfl) (by kernel_rfl) (fun _ _ _ h => h) (Or.inl ⟨by rfl, ?_⟩) (by assumption) ?_
        rotate_left
        · intro w hSw; ((try dsimp only at hSw); go_simp; (try with_reducible rfl))
        simp only [Act.put, List.setIfInBounds_toArray, List.set_cons_zero, List.set_cons_succ]
        refine wpAnyN_take (i := 8) (v := ?_) rfl (by kernel_rfl) (by kernel_rfl) (by kernel_rfl) (by kernel_rfl) (fun _ _ _ h => h) (Or.inl ⟨by rfl, ?_⟩) (by assumption) ?_
        rotate_left
        · intro w hSw; ((try dsimp only at hSw); go_simp; (try with_reducible rfl))
        simp only [Act.put, List.setIfInBounds_toArray, List.set_cons_zero, List.set_cons_succ]
        refine wpAnyN_take (i := 9) (v := ?_) rfl (by kernel_rfl) (by kernel_rfl) (by kernel_rfl) (by kernel_rfl) (fun _ _ _ h => h) (Or.inl ⟨by rfl, ?_⟩) (by assumption) ?_
        rotate_left
        · intro w hSw; ((try dsimp only at hSw); go_simp; (try with_reducible rfl))
        simp only [Act.put, List.setIfInBounds_toArray, List.set_cons_zero, List.set_cons_succ]
        refine wpAnyN_take (i := 10) (v := undef) rfl (by kernel_rfl) (by kernel_rfl) (by kernel_rfl) (by kernel_rfl) (fun _ _ _ h => h) (Or.inr ⟨by rfl, rfl⟩) (by assumption) ?_
        simp only [Act.put, List.setIfInBounds_toArray, List.set_cons_zero, List.set_cons_succ]
        refine wpAnyN_take (i := 11) (v := undef) rfl (by kernel_rfl) (by kernel_rfl) (by kernel_rfl) (by kernel_rfl) (fun _ _ _ h => h) (Or.inr ⟨by rfl, rfl⟩) (by assumption) ?_
        simp only [Act.put, List.setIfInBounds_toArray, List.set_cons_zero, List.set_cons_succ]
        refine wpAnyN_take (i := 12) (v := undef) rfl (by kernel_rfl) (by kernel_rfl) (by kernel_rfl) (by kernel_rfl) (fun _ _ _ h => h) (Or.inr ⟨by rfl, rfl⟩) (by assumption) ?_
        simp only [Act.put, List.setIfInBounds_toArray, List.set_cons_zero, List.set_cons_succ]
        refine wpAnyN_take (i := 13) (v := undef) rfl (by kernel_rfl) (by kernel_rfl) (by kernel_rfl) (by kernel_rfl) (fun _ _ _ h => h) (Or.inr ⟨by rfl, rfl⟩) (by assumption) ?_
        simp only [Act.put, List.setIfInBounds_toArray, List.set_cons_zero, List.set_cons_succ]
        refine wpAnyN_take (i := 14) (v := undef) rfl (by kernel_rfl) (by kernel_rfl) (by kernel_rfl) (by kernel_rfl) (fun _ _ _ h => h) (Or.inr ⟨by rfl, rfl⟩) (by assumption) ?_
        simp only [Act.put, List.setIfInBounds_toArray, List.set_cons_zero, List.set_cons_succ]
        refine wpAnyN_take (i := 15) (v := undef) rfl (by kernel_rfl) (by kernel_rfl) (by kernel_rfl) (by kernel_rfl) (fun _ _ _ h => h) (Or.inr ⟨by rfl, rfl⟩) (by assumption) ?_
        simp only [Act.put, List.setIfInBounds_toArray, List.set_cons_zero, List.set_cons_succ]
        refine wpAnyN_take (i := 16) (v := undef) rfl (by kernel_rfl) (by kernel_rfl) (by kernel_rfl) (by kernel_rfl) (fun _ _ _ h => h) (Or.inr ⟨by rfl, rfl⟩) (by assumption) ?_
        simp only [Act.put, List.setIfInBounds_toArray, List.set_cons_zero, List.set_cons_succ]
        refine wpAnyN_take (i := 17) (v := undef) rfl (by kernel_rfl) (by kernel_rfl) (by kernel_rfl) (by kernel_rfl) (fun _ _ _ h => h) (Or.inr ⟨by rfl, rfl⟩) (by assumption) ?_
        simp only [Act.put, List.setIfInBounds_toArray, List.set_cons_zero, List.set_cons_succ]
        refine wpAnyN_take (i := 18) (v := undef) rfl (by kernel_rfl) (by kernel_rfl) (by kernel_rfl) (by kernel_rfl) (fun _ _ _ h => h) (Or.inr ⟨by rfl, rfl⟩) (by assumption) ?_
        simp only [Act.put, List.setIfInBounds_toArray, List.set_cons_zero, List.set_cons_succ]
        refine wpAnyN_take (i := 19) (v := undef) rfl (by kernel_rfl) (by kernel_rfl) (by kernel_rfl) (by kernel_rfl) (fun _ _ _ h => h) (Or.inr ⟨by rfl, rfl⟩) (by assumption) ?_
        simp only [Act.put, List.setIfInBounds_toArray, List.set_cons_zero, List.set_cons_succ]
        refine wpAnyN_take (i := 20) (v := ?_) rfl (by kernel_rfl) (by kernel_rfl) (by kernel_rfl) (by kernel_rfl) (fun _ _ _ h => h) (Or.inl ⟨by rfl, ?_⟩) (by assumption) ?_
        rotate_left
        · intro w hSw; ((try dsimp only at hSw); go_simp; (try with_reducible rfl))
        simp only [Act.put, List.setIfInBounds_toArray, List.set_cons_zero, List.set_cons_succ]
        refine wpAnyN_done (by kernel_rfl) ?_ _
        go_wp2_with fail
        (try simp only [Exit.inBlock, Exit.then]); refine bodyPost_ret (results_none rfl _ _ _) rfl ?_
        exact hfinH.out _ o2 hst2 hl2 haccH.out
      by_cases hC : N - e < x.of'
      · have hacc : LogM.accept ls e last = none := by unfold LogM.accept; rw [hxH.out]; simp only; rw [if_pos (.inr (.inr (by rw [hNH.out]; exact hC)))]
        have hAi : ¬ (x.stamp.toNat : Int) ≤ (last.toNat : Int) := by omega
        have hBi : ¬ (x.of' : Int) < 1 := by omega
        have hCi : ((N - e : Nat) : Int) < (x.of' : Int) := by omega
        have haccH := hidden hacc
        clear hacc
        refine wp_region_need (fun w' => w'.cell? ⟨xb, 0, none⟩ = some (.int .u64 (x.stamp.toNat : Int)) ∧ w'.cell? ⟨xb, 2, none⟩ = some (.int .i64 (x.of' : Int)) ∧ w'.cell? ⟨p, 5, none⟩ = some (.int .i64 (e : Int))) (fun _ => true) (by kernel_rfl) ⟨y0, y2, d5⟩ (fun hHeld => ?_)
        refine wpAnyN_take (i := 0) (v := ?_) rfl (by kernel_rfl) (by kernel_rfl) (by kernel_rfl) (by kernel_rfl) (fun _ _ _ h => h) (Or.inl ⟨by rfl, ?_⟩) (by assumption) ?_
        rotate_left
        · intro w hSw; ((try dsimp only at hSw); go_simp; (try with_reducible rfl))
        simp only [Act.put, List.setIfInBounds_toArray, List.set_cons_zero, List.set_cons_succ]
        refine wpAnyN_take (i := 1) (v := ?_) rfl (by kernel_rfl) (by kernel_rfl) (by kernel_rfl) (by kernel_rfl) (fun _ _ _ h => h) (Or.inl ⟨by rfl, ?_⟩) (by assumption) ?_
        rotate_left
        · intro w hSw; ((try dsimp only at hSw); go_simp; (try with_reducible rfl))
        simp only [Act.put, List.setIfInBounds_toArray, List.set_cons_zero, List.set_cons_succ]
        refine wpAnyN_take (i := 2) (v := ?_) rfl (by kernel_rfl) (by kernel_rfl) (by kernel_rfl) (by kernel_rfl) (fun _ _ _ h => h) (Or.inl ⟨by rfl, ?_⟩) (by assumption) ?_
        rotate_left
        · intro w hSw; ((try dsimp only at hSw); go_simp; (try with_reducible rfl))
        simp only [Act.put, List.setIfInBounds_toArray, List.set_cons_zero, List.set_cons_succ]
        refine wpAnyN_take (i := 3) (v := ?_) rfl (by kernel_rfl) (by kernel_rfl) (by kernel_rfl) (by kernel_rfl) (fun _ _ _ h => h) (Or.inl ⟨by rfl, ?_⟩) (by assumption) ?_
        rotate_left
        · intro w hSw; ((try dsimp only at hSw); go_simp; (try with_reducible rfl))
        simp only [Act.put, List.setIfInBounds_toArray, List.set_cons_zero, List.set_cons_succ]
        refine wpAnyN_take (i := 4) (v := ?_) rfl (by kernel_rfl) (by kernel_rfl) (by kernel_rfl) (by kernel_rfl) (fun _ _ _ h => h) (Or.inl ⟨by rfl, ?_⟩) (by assumption) ?_
        rotate_left
        · intro w hSw; ((try dsimp only at hSw); go_simp; (try with_reducible rfl))
        simp only [Act.put, List.setIfInBounds_toArray, List.set_cons_zero, List.set_cons_succ]
        refine wpAnyN_take (i := 5) (v := ?_) rfl (by kernel_rfl) (by kernel_rfl) (by kernel_rfl) (by kernel_rfl) (fun _ _ _ h => h) (Or.inl ⟨by rfl, ?_⟩) (by assumption) ?_
        rotate_left
        · intro w hSw; ((try dsimp only at hSw); go_simp; (try with_reducible rfl))
        simp only [Act.put, List.setIfInBounds_toArray, List.set_cons_zero, List.set_cons_succ]
        refine wpAnyN_take (i := 6) (v := ?_) rfl (by kernel_rfl) (by kernel_rfl) (by kernel_rfl) (by kernel_rfl) (fun _ _ _ h => h) (Or.inl ⟨by rfl, ?_⟩) (by assumption) ?_
        rotate_left
        · intro w hSw; ((try dsimp only at hSw); go_simp; (try with_reducible rfl))
        simp only [Act.put, List.setIfInBounds_toArray, List.set_cons_zero, List.set_cons_succ]
        refine wpAnyN_take (i := 7) (v := ?_) rfl (by kernel_rfl) (by kernel_rfl) (by kernel_rfl) (by kernel_rfl) (fun _ _ _ h => h) (Or.inl ⟨by rfl, ?_⟩) (by assumption) ?_
        rotate_left
        · intro w hSw; ((try dsimp only at hSw); go_simp; (try with_reducible rfl))
        simp only [Act.put, List.setIfInBounds_toArray, List.set_cons_zero, List.set_cons_succ]
        refine wpAnyN_take (i := 8) (v := ?_) rfl (by kernel_rfl) (by kernel_rfl) (by kernel_rfl) (by kernel_rfl) (fun _ _ _ h => h) (Or.inl ⟨by rfl, ?_⟩) (by assumption) ?_
        rotate_left
        · intro w hSw; ((try dsimp only at hSw); go_simp; (try with_reducible rfl))
        simp only [Act.put, List.setIfInBounds_toArray, List.set_cons_zero, List.set_cons_succ]
        refine wpAnyN_take (i := 9) (v := ?_) rfl (by kernel_rfl) (by kernel_rfl) (by kernel_rfl) (by kernel_rfl) (fun _ _ _ h => h) (Or.inl ⟨by rfl, ?_⟩) (by assumption) ?_
        rotate_left
        · intro w hSw; ((try dsimp only at hSw); go_simp; (try with_reducible rfl))
        simp only [Act.put, List.setIfInBounds_toArray, List.set_cons_zero, List.set_cons_succ]
        refine wpAnyN_take (i := 10) (v := ?_) rfl (by kernel_rfl) (by kernel_rfl) (by kernel_rfl) (by kernel_rfl) (fun _ _ _ h => h) (Or.inl ⟨by rfl, ?_⟩) (by assumption) ?_
        rotate_left
        · intro w hSw; ((try dsimp only at hSw); go_simp; (try with_reducible rfl))
        simp only [Act.put, List.setIfInBounds_toArray, List.set_cons_zero, List.set_cons_succ]
        refine wpAnyN_take (i := 11) (v := ?_) rfl (by kernel_rfl) (by kernel_rfl) (by kernel_rfl) (by kernel_rfl) (fun _ _ _ h => h) (Or.inl ⟨by rfl, ?_⟩) (by assumption) ?_
        rotate_left
        · intro w hSw; ((try dsimp only at hSw); go_simp; (try with_reducible rfl))
        simp only [Act.put, List.setIfInBounds_toArray, List.set_cons_zero, List.set_cons_succ]
        refine wpAnyN_take (i := 12) (v := ?_) rfl (by kernel_rfl) (by kernel_rfl) (by kernel_rfl) (by kernel_rfl) (fun _ _ _ h => h) (Or.inl ⟨by rfl, ?_⟩) (by assumption) ?_
        rotate_left
        · intro w hSw; ((try dsimp only at hSw); go_simp; (try with_reducible rfl))
        simp only [Act.put, List.setIfInBounds_toArray, List.set_cons_zero, List.set_cons_succ]
        refine wpAnyN_take (i := 13) (v := ?_) rfl (by kernel_rfl) (by kernel_rfl) (by kernel_rfl) (by kernel_rfl) (fun _ _ _ h => h) (Or.inl ⟨by rfl, ?_⟩) (by assumption) ?_
        rotate_left
        · intro w hSw; ((try dsimp only at hSw); go_simp; (try with_reducible rfl))
        simp only [Act.put, List.setIfInBounds_toArray, List.set_cons_zero, List.set_cons_succ]
        refine wpAnyN_take (i := 14) (v := ?_) rfl (by kernel_rfl) (by kernel_rfl) (by kernel_rfl) (by kernel_rfl) (fun _ _ _ h => h) (Or.inl ⟨by rfl, ?_⟩) (by assumption) ?_
        rotate_left
        · intro w hSw; ((try dsimp only at hSw); go_simp; (try with_reducible rfl))
        simp only [Act.put, List.setIfInBounds_toArray, List.set_cons_zero, List.set_cons_succ]
        refine wpAnyN_take (i := 15) (v := ?_) rfl (by kernel_rfl) (by kernel_rfl) (by kernel_rfl) (by kernel_rfl) (fun _ _ _ h => h) (Or.inl ⟨by rfl, ?_⟩) (by assumption) ?_
        rotate_left
        · intro w hSw; ((try dsimp only at hSw); go_simp; (try with_reducible rfl))
        simp only [Act.put, List.setIfInBounds_toArray, List.set_cons_zero, List.set_cons_succ]
        refine wpAnyN_take (i := 16) (v := ?_) rfl (by kernel_rfl) (by kernel_rfl) (by kernel_rfl) (by kernel_rfl) (fun _ _ _ h => h) (Or.inl ⟨by rfl, ?_⟩) (by assumption) ?_
        rotate_left
        · intro w hSw; ((try dsimp only at hSw); go_simp; (try with_reducible rfl))
        simp only [Act.put, List.setIfInBounds_toArray, List.set_cons_zero, List.set_cons_succ]
        refine wpAnyN_take (i := 17) (v := ?_) rfl (by kernel_rfl) (by kernel_rfl) (by kernel_rfl) (by kernel_rfl) (fun _ _ _ h => h) (Or.inl ⟨by rfl, ?_⟩) (by assumption) ?_
        rotate_left
        · intro w hSw; ((try dsimp only at hSw); go_simp; (try with_reducible rfl))
        simp only [Act.put, List.setIfInBounds_toArray, List.set_cons_zero, List.set_cons_succ]
        refine wpAnyN_take (i := 18) (v := ?_) rfl (by kernel_rfl) (by kernel_rfl) (by kernel_rfl) (by kernel_rfl) (fun _ _ _ h => h) (Or.inl ⟨by rfl, ?_⟩) (by assumption) ?_
        rotate_left
        · intro w hSw; ((try dsimp only at hSw); go_simp; (try with_reducible rfl))
        simp only [Act.put, List.setIfInBounds_toArray, List.set_cons_zero, List.set_cons_succ]
        refine wpAnyN_take (i := 19) (v := ?_) rfl (by kernel_rfl) (by kernel_rfl) (by kernel_rfl) (by kernel_rfl) (fun _ _ _ h => h) (Or.inl ⟨by rfl, ?_⟩) (by assumption) ?_
        rotate_left
        · intro w hSw; ((try dsimp only at hSw); go_simp; (try with_reducible rfl))
        simp only [Act.put, List.setIfInBounds_toArray, List.set_cons_zero, List.set_cons_succ]
        refine wpAnyN_take (i := 20) (v := ?_) rfl (by kernel_rfl) (by kernel_rfl) (by kernel_rfl) (by kernel_rfl) (fun _ _ _ h => h) (Or.inl ⟨by rfl, ?_⟩) (by assumption) ?_
        rotate_left
        · intro w hSw; ((try dsimp only at hSw); go_simp; (try with_reducible rfl))
        simp only [Act.put, List.setIfInBounds_toArray, List.set_cons_zero, List.set_cons_succ]
        rw [wrap_i64 (n := ((N - e : Nat) : Int)) (by omega) (by omega)]
        rw [show decide (((N - e : Nat) : Int) < (x.of' : Int)) = true from by simpa using hCi]
        refine wpAnyN_done (by kernel_rfl) ?_ _
        go_wp2_with fail
        (try simp only [Exit.inBlock, Exit.then]); refine bodyPost_ret (results_none rfl _ _ _) rfl ?_
        exact hfinH.out _ o2 hst2 hl2 haccH.out
      have hAi : ¬ (x.stamp.toNat : Int) ≤ (last.toNat : Int) := by omega
      have hBi : ¬ (x.of' : Int) < 1 := by omega
      have hCi : ¬ ((N - e : Nat) : Int) < (x.of' : Int) := by omega
      refine wp_region_need (fun w' => w'.cell? ⟨xb, 0, none⟩ = some (.int .u64 (x.stamp.toNat : Int)) ∧ w'.cell? ⟨xb, 2, none⟩ = some (.int .i64 (x.of' : Int)) ∧ w'.cell? ⟨p, 5, none⟩ = some (.int .i64 (e : Int))) (fun _ => true) (by kernel_rfl) ⟨y0, y2, d5⟩ (fun hHeld => ?_)
      refine wpAnyN_take (i := 0) (v := ?_) rfl (by kernel_rfl) (by kernel_rfl) (by kernel_rfl) (by kernel_rfl) (fun _ _ _ h => h) (Or.inl ⟨by rfl, ?_⟩) (by assumption) ?_
      rotate_left
      · intro w hSw; ((try dsimp only at hSw); go_simp; (try with_reducible rfl))
      simp only [Act.put, List.setIfInBounds_toArray, List.set_cons_zero, List.set_cons_succ]
      refine wpAnyN_take (i := 1) (v := ?_) rfl (by kernel_rfl) (by kernel_rfl) (by kernel_rfl) (by kernel_rfl) (fun _ _ _ h => h) (Or.inl ⟨by rfl, ?_⟩) (by assumption) ?_
      rotate_left
      · intro w hSw; ((try dsimp only at hSw); go_simp; (try with_reducible rfl))
      simp only [Act.put, List.setIfInBounds_toArray, List.set_cons_zero, List.set_cons_succ]
      refine wpAnyN_take (i := 2) (v := ?_) rfl (by kernel_rfl) (by kernel_rfl) (by kernel_rfl) (by kernel_rfl) (fun _ _ _ h => h) (Or.inl ⟨by rfl, ?_⟩) (by assumption) ?_
      rotate_left
      · intro w hSw; ((try dsimp only at hSw); go_simp; (try with_reducible rfl))
      simp only [Act.put, List.setIfInBounds_toArray, List.set_cons_zero, List.set_cons_succ]
      refine wpAnyN_take (i := 3) (v := ?_) rfl (by kernel_rfl) (by kernel_rfl) (by kernel_rfl) (by kernel_rfl) (fun _ _ _ h => h) (Or.inl ⟨by rfl, ?_⟩) (by assumption) ?_
      rotate_left
      · intro w hSw; ((try dsimp only at hSw); go_simp; (try with_reducible rfl))
      simp only [Act.put, List.setIfInBounds_toArray, List.set_cons_zero, List.set_cons_succ]
      refine wpAnyN_take (i := 4) (v := ?_) rfl (by kernel_rfl) (by kernel_rfl) (by kernel_rfl) (by kernel_rfl) (fun _ _ _ h => h) (Or.inl ⟨by rfl, ?_⟩) (by assumption) ?_
      rotate_left
      · intro w hSw; ((try dsimp only at hSw); go_simp; (try with_reducible rfl))
      simp only [Act.put, List.setIfInBounds_toArray, List.set_cons_zero, List.set_cons_succ]
      refine wpAnyN_take (i := 5) (v := ?_) rfl (by kernel_rfl) (by kernel_rfl) (by kernel_rfl) (by kernel_rfl) (fun _ _ _ h => h) (Or.inl ⟨by rfl, ?_⟩) (by assumption) ?_
      rotate_left
      · intro w hSw; ((try dsimp only at hSw); go_simp; (try with_reducible rfl))
      simp only [Act.put, List.setIfInBounds_toArray, List.set_cons_zero, List.set_cons_succ]
      refine wpAnyN_take (i := 6) (v := ?_) rfl (by kernel_rfl) (by kernel_rfl) (by kernel_rfl) (by kernel_rfl) (fun _ _ _ h => h) (Or.inl ⟨by rfl, ?_⟩) (by assumption) ?_
      rotate_left
      · intro w hSw; ((try dsimp only at hSw); go_simp; (try with_reducible rfl))
      simp only [Act.put, List.setIfInBounds_toArray, List.set_cons_zero, List.set_cons_succ]
      refine wpAnyN_take (i := 7) (v := ?_) rfl (by kernel_rfl) (by kernel_rfl) (by kernel_rfl) (by kernel_rfl) (fun _ _ _ h => h) (Or.inl ⟨by rfl, ?_⟩) (by assumption) ?_
      rotate_left
      · intro w hSw; ((try dsimp only at hSw); go_simp; (try with_reducible rfl))
      simp only [Act.put, List.setIfInBounds_toArray, List.set_cons_zero, List.set_cons_succ]
      refine wpAnyN_take (i := 8) (v := ?_) rfl (by kernel_rfl) (by kernel_rfl) (by kernel_rfl) (by kernel_rfl) (fun _ _ _ h => h) (Or.inl ⟨by rfl, ?_⟩) (by assumption) ?_
      rotate_left
      · intro w hSw; ((try dsimp only at hSw); go_simp; (try with_reducible rfl))
      simp only [Act.put, List.setIfInBounds_toArray, List.set_cons_zero, List.set_cons_succ]
      refine wpAnyN_take (i := 9) (v := ?_) rfl (by kernel_rfl) (by kernel_rfl) (by kernel_rfl) (by kernel_rfl) (fun _ _ _ h => h) (Or.inl ⟨by rfl, ?_⟩) (by assumption) ?_
      rotate_left
      · intro w hSw; ((try dsimp only at hSw); go_simp; (try with_reducible rfl))
      simp only [Act.put, List.setIfInBounds_toArray, List.set_cons_zero, List.set_cons_succ]
      refine wpAnyN_take (i := 10) (v := ?_) rfl (by kernel_rfl) (by kernel_rfl) (by kernel_rfl) (by kernel_rfl) (fun _ _ _ h => h) (Or.inl ⟨by rfl, ?_⟩) (by assumption) ?_
      rotate_left
      · intro w hSw; ((try dsimp only at hSw); go_simp; (try with_reducible rfl))
      simp only [Act.put, List.setIfInBounds_toArray, List.set_cons_zero, List.set_cons_succ]
      refine wpAnyN_take (i := 11) (v := ?_) rfl (by kernel_rfl) (by kernel_rfl) (by kernel_rfl) (by kernel_rfl) (fun _ _ _ h => h) (Or.inl ⟨by rfl, ?_⟩) (by assumption) ?_
      rotate_left
      · intro w hSw; ((try dsimp only at hSw); go_simp; (try with_reducible rfl))
      simp only [Act.put, List.setIfInBounds_toArray, List.set_cons_zero, List.set_cons_succ]
      refine wpAnyN_take (i := 12) (v := ?_) rfl (by kernel_rfl) (by kernel_rfl) (by kernel_rfl) (by kernel_rfl) (fun _ _ _ h => h) (Or.inl ⟨by rfl, ?_⟩) (by assumption) ?_
      rotate_left
      · intro w hSw; ((try dsimp only at hSw); go_simp; (try with_reducible rfl))
      simp only [Act.put, List.setIfInBounds_toArray, List.set_cons_zero, List.set_cons_succ]
      refine wpAnyN_take (i := 13) (v := ?_) rfl (by kernel_rfl) (by kernel_rfl) (by kernel_rfl) (by kernel_rfl) (fun _ _ _ h => h) (Or.inl ⟨by rfl, ?_⟩) (by assumption) ?_
      rotate_left
      · intro w hSw; ((try dsimp only at hSw); go_simp; (try with_reducible rfl))
      simp only [Act.put, List.setIfInBounds_toArray, List.set_cons_zero, List.set_cons_succ]
      refine wpAnyN_take (i := 14) (v := ?_) rfl (by kernel_rfl) (by kernel_rfl) (by kernel_rfl) (by kernel_rfl) (fun _ _ _ h => h) (Or.inl ⟨by rfl, ?_⟩) (by assumption) ?_
      rotate_left
      · intro w hSw; ((try dsimp only at hSw); go_simp; (try with_reducible rfl))
      simp only [Act.put, List.setIfInBounds_toArray, List.set_cons_zero, List.set_cons_succ]
      refine wpAnyN_take (i := 15) (v := ?_) rfl (by kernel_rfl) (by kernel_rfl) (by kernel_rfl) (by kernel_rfl) (fun _ _ _ h => h) (Or.inl ⟨by rfl, ?_⟩) (by assumption) ?_
      rotate_left
      · intro w hSw; ((try dsimp only at hSw); go_simp; (try with_reducible rfl))
      simp only [Act.put, List.setIfInBounds_toArray, List.set_cons_zero, List.set_cons_succ]
      refine wpAnyN_take (i := 16) (v := ?_) rfl (by kernel_rfl) (by kernel_rfl) (by kernel_rfl) (by kernel_rfl) (fun _ _ _ h => h) (Or.inl ⟨by rfl, ?_⟩) (by assumption) ?_
      rotate_left
      · intro w hSw; ((try dsimp only at hSw); go_simp; (try with_reducible rfl))
      simp only [Act.put, List.setIfInBounds_toArray, List.set_cons_zero, List.set_cons_succ]
      refine wpAnyN_take (i := 17) (v := ?_) rfl (by kernel_rfl) (by kernel_rfl) (by kernel_rfl) (by kernel_rfl) (fun _ _ _ h => h) (Or.inl ⟨by rfl, ?_⟩) (by assumption) ?_
      rotate_left
      · intro w hSw; ((try dsimp only at hSw); go_simp; (try with_reducible rfl))
      simp only [Act.put, List.setIfInBounds_toArray, List.set_cons_zero, List.set_cons_succ]
      refine wpAnyN_take (i := 18) (v := ?_) rfl (by kernel_rfl) (by kernel_rfl) (by kernel_rfl) (by kernel_rfl) (fun _ _ _ h => h) (Or.inl ⟨by rfl, ?_⟩) (by assumption) ?_
      rotate_left
      · intro w hSw; ((try dsimp only at hSw); go_simp; (try with_reducible rfl))
      simp only [Act.put, List.setIfInBounds_toArray, List.set_cons_zero, List.set_cons_succ]
      refine wpAnyN_take (i := 19) (v := ?_) rfl (by kernel_rfl) (by kernel_rfl) (by kernel_rfl) (by kernel_rfl) (fun _ _ _ h => h) (Or.inl ⟨by rfl, ?_⟩) (by assumption) ?_
      rotate_left
      · intro w hSw; ((try dsimp only at hSw); go_simp; (try with_reducible rfl))
      simp only [Act.put, List.setIfInBounds_toArray, List.set_cons_zero, List.set_cons_succ]
      refine wpAnyN_take (i := 20) (v := ?_) rfl (by kernel_rfl) (by kernel_rfl) (by kernel_rfl) (by kernel_rfl) (fun _ _ _ h => h) (Or.inl ⟨by rfl, ?_⟩) (by assumption) ?_
      rotate_left
      · intro w hSw; ((try dsimp only at hSw); go_simp; (try with_reducible rfl))
      simp only [Act.put, List.setIfInBounds_toArray, List.set_cons_zero, List.set_cons_succ]
      rw [wrap_i64 (n := ((N - e : Nat) : Int)) (by omega) (by omega)]
      rw [show decide (((N - e : Nat) : Int) < (x.of' : Int)) = false from by simpa using hCi]
      refine wpAnyN_done (by kernel_rfl) ?_ _
      clear hAi hBi hCi hHeld
      go_wp2_with fail
      have hi1 : (e : Int) ≤ (e : Int) + (x.of' : Int) := by omega
      have hi2 : (e : Int) + (x.of' : Int) ≤ (cap : Int) := by omega
      have hi3 : (0 : Int) ≤ (e : Int) + (x.of' : Int) := by omega
      have hne : ¬ (cap = e) := by omega
      refine wp_region_need (fun w' => w'.cell? ⟨xb, 2, none⟩ = some (.int .i64 (x.of' : Int)) ∧ w'.cell? ⟨p, 5, none⟩ = some (.int .i64 (e : Int))) (fun _ => true) (by kernel_rfl) ⟨y2, d5⟩ (fun hHeld => ?_)
      refine wpAnyN_take (i := 0) (v := ?_) rfl (by kernel_rfl) (by kernel_rfl) (by kernel_rfl) (by kernel_rfl) (fun _ _ _ h => h) (Or.inl ⟨by rfl, ?_⟩) (by assumption) ?_
      rotate_left
      · intro w hSw; ((try dsimp only at hSw); go_simp; (try with_reducible rfl))
      simp only [Act.put, List.setIfInBounds_toArray, List.set_cons_zero, List.set_cons_succ]
      refine wpAnyN_take (i := 1) (v := ?_) rfl (by kernel_rfl) (by kernel_rfl) (by kernel_rfl) (by kernel_rfl) (fun _ _ _ h => h) (Or.inl ⟨by rfl, ?_⟩) (by assumption) ?_
      rotate_left
      · intro w hSw; ((try dsimp only at hSw); go_simp; (try with_reducible rfl))
      simp only [Act.put, List.setIfInBounds_toArray, List.set_cons_zero, List.set_cons_succ]
      refine wpAnyN_take (i := 2) (v := ?_) rfl (by kernel_rfl) (by kernel_rfl) (by kernel_rfl) (by kernel_rfl) (fun _ _ _ h => h) (Or.inl ⟨by rfl, ?_⟩) (by assumption) ?_
      rotate_left
      · intro w hSw; ((try dsimp only at hSw); go_simp; (try with_reducible rfl))
      simp only [Act.put, List.setIfInBounds_toArray, List.set_cons_zero, List.set_cons_succ]
      refine wpAnyN_take (i := 3) (v := ?_) rfl (by kernel_rfl) (by kernel_rfl) (by kernel_rfl) (by kernel_rfl) (fun _ _ _ h => h) (Or.inl ⟨by rfl, ?_⟩) (by assumption) ?_
      rotate_left
      · intro w hSw; ((try dsimp only at hSw); go_simp; (try with_reducible rfl))
      simp only [Act.put, List.setIfInBounds_toArray, List.set_cons_zero, List.set_cons_succ]
      refine wpAnyN_take (i := 4) (v := ?_) rfl (by kernel_rfl) (by kernel_rfl) (by kernel_rfl) (by kernel_rfl) (fun _ _ _ h => h) (Or.inl ⟨by rfl, ?_⟩) (by assumption) ?_
      rotate_left
      · intro w hSw; ((try dsimp only at hSw); go_simp; (try with_reducible rfl))
      simp only [Act.put, List.setIfInBounds_toArray, List.set_cons_zero, List.set_cons_succ]
      refine wpAnyN_take (i := 5) (v := ?_) rfl (by kernel_rfl) (by kernel_rfl) (by kernel_rfl) (by kernel_rfl) (fun _ _ _ h => h) (Or.inl ⟨by rfl, ?_⟩) (by assumption) ?_
      rotate_left
      · intro w hSw; ((try dsimp only at hSw); go_simp; (try with_reducible rfl))
      simp only [Act.put, List.setIfInBounds_toArray, List.set_cons_zero, List.set_cons_succ]
      refine wpAnyN_take (i := 6) (v := ?_) rfl (by kernel_rfl) (by kernel_rfl) (by kernel_rfl) (by kernel_rfl) (fun _ _ _ h => h) (Or.inl ⟨by rfl, ?_⟩) (by assumption) ?_
      rotate_left
      · intro w hSw; ((try dsimp only at hSw); go_simp; (try with_reducible rfl))
      simp only [Act.put, List.setIfInBounds_toArray, List.set_cons_zero, List.set_cons_succ]
      refine wpAnyN_take (i := 7) (v := ?_) rfl (by kernel_rfl) (by kernel_rfl) (by kernel_rfl) (by kernel_rfl) (fun _ _ _ h => h) (Or.inl ⟨by rfl, ?_⟩) (by assumption) ?_
      rotate_left
      · intro w hSw; ((try dsimp only at hSw); go_simp; (try with_reducible rfl))
      simp only [Act.put, List.setIfInBounds_toArray, List.set_cons_zero, List.set_cons_succ]
      refine wpAnyN_take (i := 8) (v := ?_) rfl (by kernel_rfl) (by kernel_rfl) (by kernel_rfl) (by kernel_rfl) (fun _ _ _ h => h) (Or.inl ⟨by rfl, ?_⟩) (by assumption) ?_
      rotate_left
      · intro w hSw; ((try dsimp only at hSw); go_simp; (try with_reducible rfl))
      simp only [Act.put, List.setIfInBounds_toArray, List.set_cons_zero, List.set_cons_succ]
      refine wpAnyN_take (i := 9) (v := ?_) rfl (by kernel_rfl) (by kernel_rfl) (by kernel_rfl) (by kernel_rfl) (fun _ _ _ h => h) (Or.inl ⟨by rfl, ?_⟩) (by assumption) ?_
      rotate_left
      · intro w hSw; ((try dsimp only at hSw); go_simp; (try with_reducible rfl))
      simp only [Act.put, List.setIfInBounds_toArray, List.set_cons_zero, List.set_cons_succ]
      refine wpAnyN_take (i := 10) (v := ?_) rfl (by kernel_rfl) (by kernel_rfl) (by kernel_rfl) (by kernel_rfl) (fun _ _ _ h => h) (Or.inl ⟨by rfl, ?_⟩) (by assumption) ?_
      rotate_left
      · intro w hSw; ((try dsimp only at hSw); go_simp; (try with_reducible rfl))
      simp only [Act.put, List.setIfInBounds_toArray, List.set_cons_zero, List.set_cons_succ]
      refine wpAnyN_take (i := 11) (v := ?_) rfl (by kernel_rfl) (by kernel_rfl) (by kernel_rfl) (by kernel_rfl) (fun _ _ _ h => h) (Or.inl ⟨by rfl, ?_⟩) (by assumption) ?_
      rotate_left
      · intro w hSw; ((try dsimp only at hSw); go_simp; (try with_reducible rfl))
      simp only [Act.put, List.setIfInBounds_toArray, List.set_cons_zero, List.set_cons_succ]
      rw [wrap_i64 (n := (e : Int) + (x.of' : Int)) (by omega) (by omega)]
      refine wpAnyN_take (i := 12) (v := ?_) rfl (by kernel_rfl) (by kernel_rfl) (by kernel_rfl) (by kernel_rfl) (fun _ _ _ h => h) (Or.inl ⟨by rfl, ?_⟩) (by assumption) ?_
      rotate_left
      · intro w hSw; ((try dsimp only at hSw); go_simp; (try with_reducible rfl))
      simp only [Act.put, List.setIfInBounds_toArray, List.set_cons_zero, List.set_cons_succ]
      refine wpAnyN_take (i := 13) (v := ?_) rfl (by kernel_rfl) (by kernel_rfl) (by kernel_rfl) (by kernel_rfl) (fun _ _ _ h => h) (Or.inl ⟨by rfl, ?_⟩) (by assumption) ?_
      rotate_left
      · intro w hSw; ((try dsimp only at hSw); go_simp; (try with_reducible rfl))
      simp only [Act.put, List.setIfInBounds_toArray, List.set_cons_zero, List.set_cons_succ]
      refine wpAnyN_take (i := 14) (v := ?_) rfl (by kernel_rfl) (by kernel_rfl) (by kernel_rfl) (by kernel_rfl) (fun _ _ _ h => h) (Or.inl ⟨by rfl, ?_⟩) (by assumption) ?_
      rotate_left
      · intro w hSw; ((try dsimp only at hSw); go_simp; (try with_reducible rfl))
      simp only [Act.put, List.setIfInBounds_toArray, List.set_cons_zero, List.set_cons_succ]
      refine wpAnyN_done (by kernel_rfl) ?_ _
      clear hHeld
      have hdr2 : Step Nobody W1.drew o2 W1.drew.drew o2 := (Step.refl _ _ _).drew
      have hl3 := hl2.step hdr2 (fun h => h) (fun h => h)
      have hst3 := hst2.trans (hdr2.only L)
      have hxb3 : W1.drew.drew.heap[xb]? = some (.cells (leafV x bv).toArray 139 (0, 0)) := hxb
      have hlv3 := (hlv2.step hdr (fun h => h)).step hdr2 (fun h => h)
      have hbv3 := (hbv1.step hdr (fun h => h)).step hdr2 (fun h => h)
      generalize W1.drew.drew = W2 at *
      clear hdr2 hdr hst2 hl2 hxb hlv2 hbv1 hl1 hst1 y0 y2 d5
      rw [show ((e : Int) + (x.of' : Int)).toNat - e = x.of' from by omega]
      obtain ⟨K, hK⟩ : ∃ K, x.of' = K := ⟨_, rfl⟩
      have hKH := hidden hK
      rw [hK] at hB hC hxo hi1 hi2 hi3 ⊢
      have hKi : (K : Int) ≤ 2000 := by omega
      have hW2s := hst3.size
      go_wp2_with fail
      go_loopw [6, 62] (fun rec i wr => ∃ k : Nat, k ≤ K ∧ i = .int .i64 k ∧ Below W2.heap.size W2 wr ∧ wr.ownsRow W2.heap.size 5 1 rec (((ls.drop e).take k).flatMap LeafM.bytes).length (bvs (((ls.drop e).take k).flatMap LeafM.bytes)) ∧ Hid (∀ j, j < k → ∃ y, ls[e + j]? = some y ∧ y.stamp = x.stamp ∧ y.at' = j ∧ y.of' = K))
        (fun _ i _ => K - (intOf i).toNat)
      case atStart => exact ⟨0, Nat.zero_le _, rfl, Below.refl _ _, by simpa using World.ownsRow_nil _ _ _ _, hidden (fun j hj => by omega)⟩
      case round =>
        obtain ⟨k, hk, rfl, hbel, hown, hall⟩ := hrel
        have hsN : Step Nobody W2 o2 _ (ext1 W2 o2) := ⟨hbel.os, hbel.tape, hbel.output, hbel.size, fun k hk => if_pos hk, fun k hk _ => hbel.block k hk⟩
        have hxbl := lt_of_block hxb3
        have hxb4 := (hbel.block xb hxbl).trans hxb3
        have y0 := cell_of_block hxb4 0
        have y2 := cell_of_block hxb4 2
        simp only [leafV, List.getElem?_cons_zero, List.getElem?_cons_succ] at y0 y2
        rw [hKH.out] at y2
        have hl4 := hl3.step hsN (fun h => h) (fun h => h)
        have hst4 := hst3.trans (hsN.only L)
        have hsz4 := hbel.size
        by_cases hkK : k < K
        · obtain ⟨y, hy⟩ : ∃ y, ls[e + k]? = some y := ⟨_, List.getElem?_eq_getElem (by rw [hNH.out]; omega)⟩
          have hlv4 := hlv3.step hsN (fun h => h)
          obtain ⟨b', off', cap', hv', -, -, hat'⟩ := hlv4.at
          simp only [Value.slice.injEq, Option.some.injEq, Addr.mk.injEq] at hv'
          obtain ⟨⟨rfl, rfl, -⟩, -, rfl⟩ := hv'
          obtain ⟨bw, hbw, hr⟩ := hat' (e + k) y hy
          rw [Nat.add_mul, ← Nat.add_assoc] at hr
          obtain ⟨hyl, hyo, hya⟩ := hbH.out y (List.mem_of_getElem? hy)
          have hld := hidden (load139 hr)
          have hal := hidden (run_alloc_zero (P := Try.prog) wr 139 _ zc139)
          have hsw := setCells_alloc_whole wr #[.int .u64 0, .int .i64 0, .int .i64 0, .slice none 0 0] 139 (leafV y bw) rfl
          obtain ⟨hso, -⟩ := run_store_agg (P := Try.prog) (ty := 139) (vs := leafV y bw) (heap_alloc_new wr (.cells [.int .u64 0, .int .i64 0, .int .i64 0, .slice none 0 0].toArray 139)) rfl (by kernel_rfl) (one_leafV hbw)
          rw [hsw] at hso
          have hsoH := hidden hso
          have hba : Below W2.heap.size W2 (wr.alloc (.cells (leafV y bw).toArray 139)) := hbel.alloc hsz4 _
          have hbaN := (Step.refl Nobody wr (ext1 W2 o2)).alloc (.cells (leafV y bw).toArray 139) (0, 0)
          have hyb : (wr.alloc (.cells (leafV y bw).toArray 139)).heap[wr.heap.size]? = some (.cells (leafV y bw).toArray 139 (0, 0)) := heap_alloc_new wr _
          have z0 : (wr.alloc (.cells (leafV y bw).toArray 139)).cell? ⟨wr.heap.size, 0, none⟩ = some (.int .u64 (y.stamp.toNat : Int)) := cell_of_block hyb 0
          have z1 : (wr.alloc (.cells (leafV y bw).toArray 139)).cell? ⟨wr.heap.size, 1, none⟩ = some (.int .i64 (y.at' : Int)) := cell_of_block hyb 1
          have z2 : (wr.alloc (.cells (leafV y bw).toArray 139)).cell? ⟨wr.heap.size, 2, none⟩ = some (.int .i64 (y.of' : Int)) := cell_of_block hyb 2
          have z3 : (wr.alloc (.cells (leafV y bw).toArray 139)).cell? ⟨wr.heap.size, 3, none⟩ = some bw := cell_of_block hyb 3
          have hxb5 := (hbaN.block xb (by omega) (fun h => h)).trans hxb4
          have v0 : (wr.alloc (.cells (leafV y bw).toArray 139)).cell? ⟨xb, 0, none⟩ = some (.int .u64 (x.stamp.toNat : Int)) := cell_of_block hxb5 0
          have v2 : (wr.alloc (.cells (leafV y bw).toArray 139)).cell? ⟨xb, 2, none⟩ = some (.int .i64 (x.of' : Int)) := cell_of_block hxb5 2
          rw [hKH.out] at v2
          have hl5 := hl4.step hbaN (fun h => h) (fun h => h)
          have hst5 := hst4.trans (hbaN.only L)
          have hownA := hown.alloc (.cells (leafV y bw).toArray 139)
          have hbw5 := hbw.step hbaN (fun h => h)
          have hki : (k : Int) < (K : Int) := by omega
          -- a leaf that does not fit: nothing is accepted
          have hbad : ¬ (y.stamp = x.stamp ∧ y.at' = k ∧ y.of' = K) → LogM.accept ls e last = none := fun hne => by
            cases hac : LogM.accept ls e last with
            | none => rfl
            | some q =>
              obtain ⟨k', X, c⟩ := q
              obtain ⟨_, _, _, h4, _⟩ := LogM.accept_some hac
              obtain ⟨x', hx', q1, _, q3⟩ := h4 0 (by have := (LogM.accept_some hac).1; omega)
              rw [Nat.add_zero, hxH.out] at hx'
              simp only [Option.some.injEq] at hx'
              subst hx'
              obtain ⟨y', hy', p1, p2, p3⟩ := h4 k (by rw [← q3, hKH.out]; exact hkK)
              rw [hy] at hy'
              simp only [Option.some.injEq] at hy'
              subst hy'
              exact absurd ⟨by rw [p1, q1], p2, by rw [p3, ← q3, hKH.out]⟩ hne
          have hbadH := hidden hbad
          have hyH := hidden hy
          have hlenp : (((ls.drop e).take k).flatMap LeafM.bytes).length ≤ 480 * 2000 := by
            have hall2 : ∀ (l : List LeafM), (∀ z ∈ l, z.bytes.length ≤ 480) → (l.flatMap LeafM.bytes).length ≤ 480 * l.length := by
              intro l
              induction l with
              | nil => intro _; simp
              | cons z r ih =>
                intro hz
                have := ih (fun q hq => hz q (by simp [hq]))
                have hz0 := hz z (by simp)
                simp only [List.flatMap_cons, List.length_append, List.length_cons]; omega
            have h1 := hall2 ((ls.drop e).take k) (fun z hz => (hbH.out z (List.mem_of_mem_drop (List.mem_of_mem_take hz))).1)
            have h2 : ((ls.drop e).take k).length ≤ k := by simp; omega
            omega
          have hdropk : (ls.drop e).take (k + 1) = (ls.drop e).take k ++ [y] := by
            rw [List.take_add_one, List.getElem?_drop, hy]; rfl
          clear hbad hy hsw hso hat' hlv4 hr hbw y0 y2 hxb4 hxb5 hyb hba
          generalize hRk : ((ls.drop e).take k).flatMap LeafM.bytes = Rk at *
          have hRkH := hidden hRk
          clear hRk
          obtain ⟨ra, rcp, rfl⟩ := own_form hown
          by_cases hm1 : y.stamp = x.stamp
          · have hb1 : ((x.stamp.toNat : Int) != (x.stamp.toNat : Int)) = false := by simp
            rw [hm1] at z0
            by_cases hm2 : y.at' = k
            · have hb2 : ((k : Int) != (k : Int)) = false := by simp
              rw [hm2] at z1
              by_cases hm3 : y.of' = K
              · have hb3 : ((K : Int) != (K : Int)) = false := by simp
                rw [hm3] at z2
                obtain ⟨v', w3, hrun, hown3, hgrow⟩ := append_any (wr.alloc (.cells (leafV y bw).toArray 139)) (base := W2.heap.size) (by simp; omega) hownA hbw5 (by omega)
                have hb3' : Below W2.heap.size W2 w3 := (hbel.alloc hsz4 _).grown hgrow (by simp; omega) (fun k hk => (hownA.lt k hk).1)
                have hRk1 : ((ls.drop e).take (k + 1)).flatMap LeafM.bytes = Rk ++ y.bytes := by rw [hdropk, List.flatMap_append, hRkH.out]; simp
                have hall1 : Hid (∀ j, j < k + 1 → ∃ y, ls[e + j]? = some y ∧ y.stamp = x.stamp ∧ y.at' = j ∧ y.of' = K) := hidden fun j hj => by
                  by_cases hjk : j = k
                  · subst hjk; exact ⟨y, hyH.out, hm1, hm2, hm3⟩
                  · exact hall.out j (by omega)
                have hrel1 := hidden (show w3.ownsRow W2.heap.size 5 1 v' (((ls.drop e).take (k + 1)).flatMap LeafM.bytes).length (bvs (((ls.drop e).take (k + 1)).flatMap LeafM.bytes)) from by rw [hRk1, List.length_append]; exact hown3)
                obtain ⟨wa, wc, rfl⟩ := slc_form hbw5
                have hrunH := hidden hrun
                clear hm1 hm2 hm3 hrun hown3 hgrow hbadH hRk1 hall hown hownA hbw5 hl5 hst5 hdropk
                go_wp2_with (first
                  | ((with_reducible apply lit_load); exact hld.out; simp only [Act.put, List.setIfInBounds_toArray, List.set_cons_zero, List.set_cons_succ])
                  | ((with_reducible apply lit_alloc); exact hal.out; simp only [Act.put, List.setIfInBounds_toArray, List.set_cons_zero, List.set_cons_succ])
                  | ((with_reducible apply lit_store); exact hsoH.out; simp only [Act.put])
                  | ((with_reducible apply lit_append); exact hrunH.out; simp only [Act.put, List.setIfInBounds_toArray, List.set_cons_zero, List.set_cons_succ]))
                go_roundw
                case rel => exact ⟨k + 1, hkK, by go_num, hb3', hrel1.out, hall1⟩
                case measure => simp [intOf]; omega
              · have hb3 : ((y.of' : Int) != (K : Int)) = true := by rw [bne_iff_ne]; omega
                have hacc := hidden (hbadH.out (fun h => hm3 h.2.2))
                clear hm3
                go_wp2_with (first
                  | ((with_reducible apply lit_load); exact hld.out; simp only [Act.put, List.setIfInBounds_toArray, List.set_cons_zero, List.set_cons_succ])
                  | ((with_reducible apply lit_alloc); exact hal.out; simp only [Act.put, List.setIfInBounds_toArray, List.set_cons_zero, List.set_cons_succ])
                  | ((with_reducible apply lit_store); exact hsoH.out; simp only [Act.put]))
                (try simp only [Exit.inBlock, Exit.then]); refine bodyPost_ret (results_none rfl _ _ _) rfl ?_
                exact hfinH.out _ _ hst5 hl5 hacc.out
            · have hb2 : ((y.at' : Int) != (k : Int)) = true := by rw [bne_iff_ne]; omega
              have hacc := hidden (hbadH.out (fun h => hm2 h.2.1))
              clear hm2
              go_wp2_with (first
                | ((with_reducible apply lit_load); exact hld.out; simp only [Act.put, List.setIfInBounds_toArray, List.set_cons_zero, List.set_cons_succ])
                | ((with_reducible apply lit_alloc); exact hal.out; simp only [Act.put, List.setIfInBounds_toArray, List.set_cons_zero, List.set_cons_succ])
                | ((with_reducible apply lit_store); exact hsoH.out; simp only [Act.put]))
              (try simp only [Exit.inBlock, Exit.then]); refine bodyPost_ret (results_none rfl _ _ _) rfl ?_
              exact hfinH.out _ _ hst5 hl5 hacc.out
          · have hb1 : ((y.stamp.toNat : Int) != (x.stamp.toNat : Int)) = true := by
              rw [bne_iff_ne]; intro h; exact hm1 (BitVec.eq_of_toNat_eq (by omega))
            have hacc := hidden (hbadH.out (fun h => hm1 h.1))
            clear hm1
            go_wp2_with (first
              | ((with_reducible apply lit_load); exact hld.out; simp only [Act.put, List.setIfInBounds_toArray, List.set_cons_zero, List.set_cons_succ])
              | ((with_reducible apply lit_alloc); exact hal.out; simp only [Act.put, List.setIfInBounds_toArray, List.set_cons_zero, List.set_cons_succ])
              | ((with_reducible apply lit_store); exact hsoH.out; simp only [Act.put]))
            (try simp only [Exit.inBlock, Exit.then]); refine bodyPost_ret (results_none rfl _ _ _) rfl ?_
            exact hfinH.out _ _ hst5 hl5 hacc.out
        · obtain rfl : K = k := by omega
          obtain ⟨R, hR0⟩ : ∃ R, ((ls.drop e).take K).flatMap LeafM.bytes = R := ⟨_, rfl⟩
          have hacc : LogM.accept ls e last = some (K, x.stamp, R) := by
            rw [← hR0]
            exact LogM.accept_intro (by omega) (by rw [hNH.out]; omega) (by omega) hall.out
          have hRlen : R.length ≤ 960000 := by
            have hall2 : ∀ (l : List LeafM), (∀ z ∈ l, z.bytes.length ≤ 480) → (l.flatMap LeafM.bytes).length ≤ 480 * l.length := by
              intro l
              induction l with
              | nil => intro _; simp
              | cons z r ih =>
                intro hz
                have := ih (fun q hq => hz q (by simp [hq]))
                have hz0 := hz z (by simp)
                simp only [List.flatMap_cons, List.length_append, List.length_cons]; omega
            have h1 := hall2 ((ls.drop e).take K) (fun z hz => (hbH.out z (List.mem_of_mem_drop (List.mem_of_mem_take hz))).1)
            have h2 : ((ls.drop e).take K).length ≤ K := by simp; omega
            rw [hR0] at h1
            omega
          rw [hR0] at hown
          clear hR0
          obtain ⟨f', rfl⟩ : ∃ f', f = f' + 1 := ⟨f - 1, by omega⟩
          have hR' : Hid (LogM.readL ls N (1, x0.stamp, []) = LogM.readL ls f' (e + K, x.stamp, rs ++ [R])) := hidden (hR.out.trans (LogM.readL_some (s := (e, last, rs)) hacc f'))
          obtain ⟨ra, rcp, rfl⟩ := own_form hown
          have hRb : Bytes wr (ext1 W2 o2) (.slice ra R.length rcp) R := own_bytes hown (fun q hq => by unfold ext1; rw [if_neg (by have := (hown.lt q hq).1; omega)])
          have hRm : Mine wr (ext1 W2 o2) (.slice ra R.length rcp) := fun q off n c e hn => by
            simp only [Value.slice.injEq] at e
            have := hown.lt q (by rw [e.1]; rfl)
            exact ⟨this.2, by unfold ext1; rw [if_neg (by omega)]⟩
          have hdr4 : Step Nobody wr (ext1 W2 o2) wr.drew (ext1 W2 o2) := (Step.refl _ _ _).drew
          have hsA := hdr4.trans ((Step.refl Nobody wr.drew (ext1 W2 o2)).alloc (.cells #[.slice ra R.length rcp] 28) (0, 0))
          have hlA := hl4.step hsA (fun h => h) (fun h => h)
          have hRA := hRb.step hsA (fun h => h)
          have hRMA := hRm.step hsA
          have hnb : (wr.drew.alloc (.cells #[.slice ra R.length rcp] 28)).heap[wr.heap.size]? = some (.cells #[.slice ra R.length rcp] 28 (0, 0)) := heap_alloc_new wr.drew _
          have hwfm : LogM.wf { m with records := rs, end' := e } := hl4.wf
          have hwfN : ({ ({ m with records := rs, end' := e } : LogM) with records := rs ++ [R], end' := e + K } : LogM).wf := by
            obtain ⟨q1, q2, q3, q4, q5, q6, q7⟩ := hwfm
            simp only at q1 q2 q3 q4 q5 q6 q7
            refine ⟨q1, q2, q3, by show 1 ≤ e + K; omega, by show e + K ≤ m.n; omega, by show (rs ++ [R]).length + 1 ≤ e + K; simp only [List.length_append, List.length_cons, List.length_nil]; omega, ?_⟩
            intro r hr
            rcases List.mem_append.1 hr with hr | hr
            · exact q7 r hr
            · simp only [List.mem_singleton] at hr; subst hr; exact hRlen
          obtain ⟨rv, v', w3, o3, hc6, ⟨rva, rvc, hrv⟩, hrun, ⟨v'a, v'c, hv'⟩, hs3, hp3, hs5, hlN⟩ := hlA.append hL hnb hRA hRMA (e + K) hwfN
          subst hrv hv'
          simp only at hc6 hrun hs5 hlN
          have hplt : p < wr.heap.size := hl4.lt
          have hc6w : wr.drew.cell? ⟨p, 6, none⟩ = some (.slice rva rs.length rvc) := by
            rw [← hc6, World.cell?_alloc_lt _ _ _ hplt]
          have hheld4 := hl4.held
          obtain ⟨-, -, -, -, -, c5w, -⟩ := hheld4
          simp only at c5w
          have hxbl4 := lt_of_block hxb4
          have hxbA : (wr.drew.alloc (.cells #[.slice ra R.length rcp] 28)).heap[xb]? = some (.cells (leafV x bv).toArray 139 (0, 0)) := (hsA.block xb hxbl4 (fun h => h)).trans hxb4
          have hxbp : xb ≠ p := by
            intro h; rw [h] at hxo1
            have h1 := hl3.ofL
            rw [hxo1] at h1
            exact hL h1.symm
          have hxbo : (tagAt (ext1 W2 o2) wr.heap.size (0, 0) xb).1 = 0 := by
            rw [tagAt_other _ _ (by omega)]
            unfold ext1; rw [if_pos hxbl, hxo1]
          have hxb3w : w3.heap[xb]? = some (.cells (leafV x bv).toArray 139 (0, 0)) := (hs3.block xb (lt_of_block hxbA) (by show ¬ _ = L; rw [show wr.drew.heap.size = wr.heap.size from rfl, hxbo]; exact fun h => hL h.symm)).trans hxbA
          have k0 : wr.drew.cell? ⟨xb, 0, none⟩ = some (.int .u64 (x.stamp.toNat : Int)) := y0
          have k2 : wr.drew.cell? ⟨xb, 2, none⟩ = some (.int .i64 (K : Int)) := y2
          have a0 : (wr.drew.alloc (.cells #[.slice ra R.length rcp] 28)).cell? ⟨xb, 0, none⟩ = some (.int .u64 (x.stamp.toNat : Int)) := cell_of_block hxbA 0
          have a2 : (wr.drew.alloc (.cells #[.slice ra R.length rcp] 28)).cell? ⟨xb, 2, none⟩ = some (.int .i64 (K : Int)) := by rw [← hKH.out]; exact cell_of_block hxbA 2
          have a5 : (wr.drew.alloc (.cells #[.slice ra R.length rcp] 28)).cell? ⟨p, 5, none⟩ = some (.int .i64 (e : Int)) := by rw [World.cell?_alloc_lt _ _ _ hplt]; exact c5w
          have b0 : w3.cell? ⟨xb, 0, none⟩ = some (.int .u64 (x.stamp.toNat : Int)) := cell_of_block hxb3w 0
          have b2 : w3.cell? ⟨xb, 2, none⟩ = some (.int .i64 (K : Int)) := by rw [← hKH.out]; exact cell_of_block hxb3w 2
          have b5 : w3.cell? ⟨p, 5, none⟩ = some (.int .i64 (e : Int)) := (World.cell?_of_block (a := ⟨p, 5, none⟩) hp3).trans a5
          have b6 : w3.cell? ⟨p, 6, none⟩ = some (.slice rva rs.length rvc) := (World.cell?_of_block (a := ⟨p, 6, none⟩) hp3).trans hc6
          obtain ⟨_, _, hpA, -⟩ := hlA
          have f5 := free_of_block (hp3.trans hpA) 5
          have f6 := free_of_block (hp3.trans hpA) 6
          have s0 : (w3.setCell ⟨p, 6, none⟩ (.slice v'a (rs.length + 1) v'c)).cell? ⟨xb, 0, none⟩ = some (.int .u64 (x.stamp.toNat : Int)) := by rw [World.cell?_setCell_other _ _ _ _ (by simp)]; exact b0
          have s2 : (w3.setCell ⟨p, 6, none⟩ (.slice v'a (rs.length + 1) v'c)).cell? ⟨xb, 2, none⟩ = some (.int .i64 (K : Int)) := by rw [World.cell?_setCell_other _ _ _ _ (by simp)]; exact b2
          have s5 : (w3.setCell ⟨p, 6, none⟩ (.slice v'a (rs.length + 1) v'c)).cell? ⟨p, 5, none⟩ = some (.int .i64 (e : Int)) := by rw [World.cell?_setCell_other _ _ _ _ (by simp)]; exact b5
          have t0 : ((w3.setCell ⟨p, 6, none⟩ (.slice v'a (rs.length + 1) v'c)).setCell ⟨p, 5, none⟩ (.int .i64 ((e + K : Nat) : Int))).cell? ⟨xb, 0, none⟩ = some (.int .u64 (x.stamp.toNat : Int)) := by rw [World.cell?_setCell_other _ _ _ _ (by simp)]; exact s0
          have t2 : ((w3.setCell ⟨p, 6, none⟩ (.slice v'a (rs.length + 1) v'c)).setCell ⟨p, 5, none⟩ (.int .i64 ((e + K : Nat) : Int))).cell? ⟨xb, 2, none⟩ = some (.int .i64 (K : Int)) := by rw [World.cell?_setCell_other _ _ _ _ (by simp)]; exact s2
          have hstF := ((hst4.trans (hsA.only L)).trans hs5)
          have hmeas : endOf p N ((w3.setCell ⟨p, 6, none⟩ (.slice v'a (rs.length + 1) v'c)).setCell ⟨p, 5, none⟩ (.int .i64 ((e + K : Nat) : Int))) = N - (e + K) := by
            have : ((w3.setCell ⟨p, 6, none⟩ (.slice v'a (rs.length + 1) v'c)).setCell ⟨p, 5, none⟩ (.int .i64 ((e + K : Nat) : Int))).cell? ⟨p, 5, none⟩ = some (.int .i64 ((e + K : Nat) : Int)) := World.cell?_setCell_same' _ _ _ (by rw [s5]; rfl)
            unfold endOf; rw [this]
            show N - (((e + K : Nat) : Int)).toNat = _
            rw [Int.toNat_natCast]
          have hadd : (e : Int) + (K : Int) = ((e + K : Nat) : Int) := by omega
          have hrunH := hidden hrun
          have hA0 := hidden (And.intro a0 (And.intro a2 (And.intro a5 hc6)))
          have hB0 := hidden (And.intro b0 (And.intro b2 (And.intro b5 b6)))
          have hS0 := hidden (And.intro s0 (And.intro s2 s5))
          have hT0 := hidden (And.intro t0 t2)
          have hF := hidden (And.intro hstF (And.intro hlN hmeas))
          have haddH := hidden hadd
          clear hrun a0 a2 a5 hc6 b0 b2 b5 b6 s0 s2 s5 t0 t2 hstF hlN hmeas hxb3w hxbA hs5 hs3 hp3 hnb hRA hRMA hRm hRb hsA hdr4 hown hall hacc hadd hpA hwfN hwfm
          go_wp2_with fail
          refine wp_region_g (fun i w' => (w'.cell? ⟨xb, 0, none⟩ = some (.int .u64 (x.stamp.toNat : Int)) ∧ w'.cell? ⟨xb, 2, none⟩ = some (.int .i64 (K : Int))) ∧ (i < 23 ∨ 25 ≤ i → w'.cell? ⟨p, 5, none⟩ = some (.int .i64 (e : Int))) ∧ (i < 20 ∨ 25 ≤ i → w'.cell? ⟨p, 6, none⟩ = some (.slice rva rs.length rvc))) (by kernel_rfl) ?_
          refine wpAnyG_take (i := 0) (St := (fun _ => True)) (v := ?_) rfl (by kernel_rfl) (by kernel_rfl) (by kernel_rfl) (fun _ _ _ _ => trivial) (fun _ _ _ h => h) (Or.inl ⟨by rfl, ?_⟩) (trivial) ?_
          rotate_left
          · intro w hSw; ((try dsimp only at hSw); go_simp; (try with_reducible rfl))
          simp only [Act.put, List.setIfInBounds_toArray, List.set_cons_zero, List.set_cons_succ]
          refine wpAnyG_take (i := 1) (St := (fun _ => True)) (v := ?_) rfl (by kernel_rfl) (by kernel_rfl) (by kernel_rfl) (fun _ _ _ _ => trivial) (fun _ _ _ h => h) (Or.inl ⟨by rfl, ?_⟩) (trivial) ?_
          rotate_left
          · intro w hSw; ((try dsimp only at hSw); go_simp; (try with_reducible rfl))
          simp only [Act.put, List.setIfInBounds_toArray, List.set_cons_zero, List.set_cons_succ]
          refine wpAnyG_take (i := 2) (St := (fun _ => True)) (v := ?_) rfl (by kernel_rfl) (by kernel_rfl) (by kernel_rfl) (fun _ _ _ _ => trivial) (fun _ _ _ h => h) (Or.inl ⟨by rfl, ?_⟩) (trivial) ?_
          rotate_left
          · intro w hSw; ((try dsimp only at hSw); go_simp; (try with_reducible rfl))
          simp only [Act.put, List.setIfInBounds_toArray, List.set_cons_zero, List.set_cons_succ]
          refine wpAnyG_take (i := 3) (St := (fun _ => True)) (v := ?_) rfl (by kernel_rfl) (by kernel_rfl) (by kernel_rfl) (fun _ _ _ _ => trivial) (fun _ _ _ h => h) (Or.inl ⟨by rfl, ?_⟩) (trivial) ?_
          rotate_left
          · intro w hSw; ((try dsimp only at hSw); go_simp; (try with_reducible rfl))
          simp only [Act.put, List.setIfInBounds_toArray, List.set_cons_zero, List.set_cons_succ]
          refine wpAnyG_take (i := 4) (St := (fun _ => True)) (v := ?_) rfl (by kernel_rfl) (by kernel_rfl) (by kernel_rfl) (fun _ _ _ _ => trivial) (fun _ _ _ h => h) (Or.inl ⟨by rfl, ?_⟩) (trivial) ?_
          rotate_left
          · intro w hSw; ((try dsimp only at hSw); go_simp; (try with_reducible rfl))
          simp only [Act.put, List.setIfInBounds_toArray, List.set_cons_zero, List.set_cons_succ]
          refine wpAnyG_take (i := 5) (St := (fun w' => w'.cell? ⟨p, 6, none⟩ = some (.slice rva rs.length rvc))) (v := ?_) rfl (by kernel_rfl) (by kernel_rfl) (by kernel_rfl) (fun j w hd h => h.2.2 (dep_out (lo := 20) (hi := 25) (by kernel_rfl) j hd)) (fun _ _ _ h => h) (Or.inl ⟨by rfl, ?_⟩) (hc6w) ?_
          rotate_left
          · intro w hSw; ((try dsimp only at hSw); go_simp; (try with_reducible rfl))
          simp only [Act.put, List.setIfInBounds_toArray, List.set_cons_zero, List.set_cons_succ]
          refine wpAnyG_take (i := 6) (St := (fun _ => True)) (v := ?_) rfl (by kernel_rfl) (by kernel_rfl) (by kernel_rfl) (fun _ _ _ _ => trivial) (fun _ _ _ h => h) (Or.inl ⟨by rfl, ?_⟩) (trivial) ?_
          rotate_left
          · intro w hSw; ((try dsimp only at hSw); go_simp; (try with_reducible rfl))
          simp only [Act.put, List.setIfInBounds_toArray, List.set_cons_zero, List.set_cons_succ]
          refine wpAnyG_take (i := 9) (St := (fun _ => True)) (v := ?_) rfl (by kernel_rfl) (by kernel_rfl) (by kernel_rfl) (fun _ _ _ _ => trivial) (fun _ _ _ h => h) (Or.inl ⟨by rfl, ?_⟩) (trivial) ?_
          rotate_left
          · intro w hSw; ((try dsimp only at hSw); go_simp; (try with_reducible rfl))
          simp only [Act.put, List.setIfInBounds_toArray, List.set_cons_zero, List.set_cons_succ]
          refine wpAnyG_take (i := 10) (St := (fun _ => True)) (v := ?_) rfl (by kernel_rfl) (by kernel_rfl) (by kernel_rfl) (fun _ _ _ _ => trivial) (fun _ _ _ h => h) (Or.inl ⟨by rfl, ?_⟩) (trivial) ?_
          rotate_left
          · intro w hSw; ((try dsimp only at hSw); go_simp; (try with_reducible rfl))
          simp only [Act.put, List.setIfInBounds_toArray, List.set_cons_zero, List.set_cons_succ]
          refine wpAnyG_take (i := 11) (St := (fun _ => True)) (v := ?_) rfl (by kernel_rfl) (by kernel_rfl) (by kernel_rfl) (fun _ _ _ _ => trivial) (fun _ _ _ h => h) (Or.inl ⟨by rfl, ?_⟩) (trivial) ?_
          rotate_left
          · intro w hSw; ((try dsimp only at hSw); go_simp; (try with_reducible rfl))
          simp only [Act.put, List.setIfInBounds_toArray, List.set_cons_zero, List.set_cons_succ]
          refine wpAnyG_take (i := 12) (St := (fun w' => w'.cell? ⟨p, 5, none⟩ = some (.int .i64 (e : Int)))) (v := ?_) rfl (by kernel_rfl) (by kernel_rfl) (by kernel_rfl) (fun j w hd h => h.2.1 (dep_out (lo := 23) (hi := 25) (by kernel_rfl) j hd)) (fun _ _ _ h => h) (Or.inl ⟨by rfl, ?_⟩) (c5w) ?_
          rotate_left
          · intro w hSw; ((try dsimp only at hSw); go_simp; (try with_reducible rfl))
          simp only [Act.put, List.setIfInBounds_toArray, List.set_cons_zero, List.set_cons_succ]
          refine wpAnyG_take (i := 13) (St := (fun _ => True)) (v := ?_) rfl (by kernel_rfl) (by kernel_rfl) (by kernel_rfl) (fun _ _ _ _ => trivial) (fun _ _ _ h => h) (Or.inl ⟨by rfl, ?_⟩) (trivial) ?_
          rotate_left
          · intro w hSw; ((try dsimp only at hSw); go_simp; (try with_reducible rfl))
          simp only [Act.put, List.setIfInBounds_toArray, List.set_cons_zero, List.set_cons_succ]
          refine wpAnyG_take (i := 14) (St := (fun w' => w'.cell? ⟨xb, 0, none⟩ = some (.int .u64 (x.stamp.toNat : Int)) ∧ w'.cell? ⟨xb, 2, none⟩ = some (.int .i64 (K : Int)))) (v := ?_) rfl (by kernel_rfl) (by kernel_rfl) (by kernel_rfl) (fun j w hd h => h.1) (fun _ _ _ h => h) (Or.inl ⟨by rfl, ?_⟩) (⟨k0, k2⟩) ?_
          rotate_left
          · intro w hSw; ((try dsimp only at hSw); go_simp; (try with_reducible rfl))
          simp only [Act.put, List.setIfInBounds_toArray, List.set_cons_zero, List.set_cons_succ]
          refine wpAnyG_take (i := 15) (St := (fun _ => True)) (v := ?_) rfl (by kernel_rfl) (by kernel_rfl) (by kernel_rfl) (fun _ _ _ _ => trivial) (fun _ _ _ h => h) (Or.inl ⟨by rfl, ?_⟩) (trivial) ?_
          rotate_left
          · intro w hSw; ((try dsimp only at hSw); go_simp; (try with_reducible rfl))
          simp only [Act.put, List.setIfInBounds_toArray, List.set_cons_zero, List.set_cons_succ]
          refine wpAnyG_take (i := 16) (St := (fun _ => True)) (v := ?_) rfl (by kernel_rfl) (by kernel_rfl) (by kernel_rfl) (fun _ _ _ _ => trivial) (fun _ _ _ h => h) (Or.inl ⟨by rfl, ?_⟩) (trivial) ?_
          rotate_left
          · intro w hSw; ((try dsimp only at hSw); go_simp; (try with_reducible rfl))
          simp only [Act.put, List.setIfInBounds_toArray, List.set_cons_zero, List.set_cons_succ]
          refine wpAnyG_take (i := 17) (St := (fun w' => w'.cell? ⟨xb, 0, none⟩ = some (.int .u64 (x.stamp.toNat : Int)) ∧ w'.cell? ⟨xb, 2, none⟩ = some (.int .i64 (K : Int)))) (v := ?_) rfl (by kernel_rfl) (by kernel_rfl) (by kernel_rfl) (fun j w hd h => h.1) (fun _ _ _ h => h) (Or.inl ⟨by rfl, ?_⟩) (⟨k0, k2⟩) ?_
          rotate_left
          · intro w hSw; ((try dsimp only at hSw); go_simp; (try with_reducible rfl))
          simp only [Act.put, List.setIfInBounds_toArray, List.set_cons_zero, List.set_cons_succ]
          rw [wrap_i64 (n := (e : Int) + (K : Int)) (by omega) (by omega), haddH.out]
          refine wpAnyG_one (i := 7) rfl (by kernel_rfl) ?_
          go_wp2_with fail
          refine ⟨.inr ⟨⟨hA0.out.1, hA0.out.2.1⟩, fun _ => hA0.out.2.2.1, fun _ => hA0.out.2.2.2⟩, ?_⟩
          refine wpAnyG_one (i := 8) rfl (by kernel_rfl) ?_
          refine lit_append hrunH.out ?_
          refine wpList_nil ?_
          refine ⟨.inr ⟨⟨hB0.out.1, hB0.out.2.1⟩, fun _ => hB0.out.2.2.1, fun _ => hB0.out.2.2.2⟩, ?_⟩
          simp only [Act.put, List.setIfInBounds_toArray, List.set_cons_zero, List.set_cons_succ]
          have q5 := hB0.out.2.2.1
          have q6 := hB0.out.2.2.2
          refine wpAnyG_one (i := 18) rfl (by kernel_rfl) ?_
          go_wp2_with fail
          (first | refine ⟨.inl trivial, ?_⟩ | refine ⟨.inl rfl, ?_⟩ | skip)
          refine wpAnyG_one (i := 19) rfl (by kernel_rfl) ?_
          go_wp2_with fail
          (first | refine ⟨.inl trivial, ?_⟩ | refine ⟨.inl rfl, ?_⟩ | skip)
          refine wpAnyG_one (i := 20) rfl (by kernel_rfl) ?_
          go_wp2_with fail
          refine ⟨.inr ⟨⟨hS0.out.1, hS0.out.2.1⟩, fun _ => hS0.out.2.2, fun h => by rcases h with h | h <;> omega⟩, ?_⟩
          refine wpAnyG_one (i := 21) rfl (by kernel_rfl) ?_
          go_wp2_with fail
          (first | refine ⟨.inl trivial, ?_⟩ | refine ⟨.inl rfl, ?_⟩ | skip)
          refine wpAnyG_one (i := 22) rfl (by kernel_rfl) ?_
          go_wp2_with fail
          (first | refine ⟨.inl trivial, ?_⟩ | refine ⟨.inl rfl, ?_⟩ | skip)
          refine wpAnyG_one (i := 23) rfl (by kernel_rfl) ?_
          go_wp2_with fail
          refine ⟨.inr ⟨⟨hT0.out.1, hT0.out.2⟩, fun h => by rcases h with h | h <;> omega, fun h => by rcases h with h | h <;> omega⟩, ?_⟩
          refine wpAnyG_one (i := 24) rfl (by kernel_rfl) ?_
          go_wp2_with fail
          (first | refine ⟨.inl trivial, ?_⟩ | refine ⟨.inl rfl, ?_⟩ | skip)
          refine wpAnyG_done (by kernel_rfl) ?_ _
          clear q5 q6 f5 f6
          go_wp2_with fail
          go_roundw
          case rel => exact ⟨f', e + K, x.stamp, rs ++ [R], o3, rfl, hF.out.1, hF.out.2.1, by omega, by omega, by omega, hR'⟩
          case measure => rw [haddH.out, hF.out.2.2, d5H.out]; omega
    · obtain rfl : N = e := by omega
      have hfin2 : LogM.readAll ls = (N, last, rs) := by
        rw [hfin.out, hR.out]
        exact LogM.readL_stop (s := (N, last, rs)) (by unfold LogM.accept; rw [List.getElem?_eq_none (by rw [hNH.out]; exact Nat.le_refl _)]) f
      have hfin2H := hidden hfin2
      clear hfin2
      go_wp2_with fail
      go_end0
      rw [hfin2H.out]
      exact ⟨_, o1, rfl, hst, rfl, hl⟩
end
end Go.Proofs.YtfgggkheadfiaaaR
/- The disk's law DiskSynced: its walk. -/
namespace Go.Proofs.YtfgggkheadfiaaaR
open Go Go.RowKit
attribute [local go_sem ↓] Go.wp_at_zero Go.wp_at_succ

theorem getD_set_in {α : Type} (l : List α) (i j : Nat) (x d : α) (hi : i < l.length) : (l.set i x).getD j d = if i = j then x else l.getD j d := by
  simp only [List.getD_eq_getElem?_getD, List.getElem?_set]
  by_cases h : i = j
  · subst h; simp [hi]
  · simp [h]
namespace DiskM
/-- Of a disk of six pages that was only written to: what each page's last write was. -/
def Syn (d : DiskM) (ls : List (List UInt8)) : Prop :=
  d.dead = false ∧ d.left = -1 ∧ d.pages = List.replicate 6 blank ∧ ls.length = 6 ∧ (∀ p, p < 6 → seenIn p blank d.row = if ls.getD p [] = [] then blank else ls.getD p []) ∧ ∀ x ∈ d.row, x.1 < 6 ∧ x.2.length = 512
theorem syn_new : (new 6).Syn (List.replicate 6 []) := by
  refine ⟨rfl, rfl, rfl, by simp, fun p hp => ?_, by simp [new]⟩
  have : (List.replicate 6 ([] : List UInt8)).getD p [] = [] := by
    simp only [List.getD_eq_getElem?_getD, List.getElem?_replicate]
    split <;> rfl
  rw [this]; rfl
theorem seenIn_snoc (p : Nat) (q : List UInt8) (row : List (Nat × List UInt8)) (x : Nat × List UInt8) : seenIn p q (row ++ [x]) = if x.1 = p then x.2 else seenIn p q row := by
  simp [seenIn, List.foldl_append]
theorem syn_write {d : DiskM} {ls : List (List UInt8)} (h : d.Syn ls) (at' : Int) (l : List UInt8) (hl : l.length = 512) :
    (∃ d', d.write at' l = (d', 0) ∧ 0 ≤ at' ∧ at' < 6 ∧ d'.Syn (ls.set at'.toNat l) ∧ d'.row.length = d.row.length + 1) ∨ d.write at' l = (d, 1) := by
  obtain ⟨h1, h2, h3, h4, h5, h6⟩ := h
  have hpl : d.pages.length = 6 := by rw [h3]; simp
  by_cases hb : at' < 0 ∨ 6 ≤ at'
  · right
    have ha : d.asked at' l.length = 1 := by
      unfold asked; rw [h1, hpl]; simp only [Bool.false_eq_true, if_false]; rw [if_pos (by omega)]
    simp [write, ha, counted]
  · left
    have ha : d.asked at' l.length = 0 := by
      unfold asked; rw [h1, hpl]; simp only [Bool.false_eq_true, if_false]; rw [if_neg (by omega)]
    have hc : d.counted 0 = (d, 0) := by unfold counted; rw [if_pos (by omega)]
    refine ⟨{ d with row := d.row ++ [(at'.toNat, l)] }, by simp [write, ha, hc], by omega, by omega, ⟨h1, h2, h3, by simpa using h4, ?_, ?_⟩, by simp⟩
    · intro p hp
      show seenIn p blank (d.row ++ [(at'.toNat, l)]) = _
      rw [seenIn_snoc]
      have hne : l ≠ [] := by intro e; rw [e] at hl; cases hl
      rw [getD_set_in _ _ _ _ _ (by omega)]
      by_cases he : at'.toNat = p
      · rw [if_pos he, if_pos he, if_neg hne]
      · rw [if_neg he, if_neg he]; exact h5 p hp
    · intro x hx
      rcases List.mem_append.1 hx with hx | hx
      · exact h6 x hx
      · simp only [List.mem_singleton] at hx; subst hx; exact ⟨by show at'.toNat < 6; omega, hl⟩
theorem done_seen : ∀ (row : List (Nat × List UInt8)) (k : Nat) (pages : List (List UInt8)) (p : Nat), (∀ q ∈ pages, q.length = 512) → (∀ x ∈ row, x.1 < pages.length ∧ x.2.length = 512) →
    ((row.zipIdx k).foldl (doneOne fun _ => 512) pages).getD p [] = seenIn p (pages.getD p []) row
  | [], _, _, _, _, _ => rfl
  | x :: r, k, pages, p, hq, hx => by
    have h1 := hx x (by simp)
    have h2 := doneOne_wf (fun _ => 512) (by simp) hq (x, k) h1.1 h1.2
    rw [List.zipIdx_cons, List.foldl_cons, done_seen r (k + 1) _ p h2.2 (fun y hy => by rw [h2.1]; exact hx y (by simp [hy]))]
    have hsp : splicePage 512 x.2 (pages.getD x.1 []) = x.2 := by
      unfold splicePage
      rw [List.take_of_length_le (by omega), List.drop_eq_nil_of_le (by rw [getD_wf hq h1.1]; omega), List.append_nil]
    have hone : (doneOne (fun _ => 512) pages (x, k)).getD p [] = if x.1 = p then x.2 else pages.getD p [] := by
      unfold doneOne
      rw [getD_set_in _ _ _ _ _ h1.1, hsp]
    rw [hone]
    rfl
/-- What is read behind a Sync, a loss of power and a start. -/
theorem syn_end {d : DiskM} {ls : List (List UInt8)} (h : d.Syn ls) (fates : List Int) :
    ∃ d1 d2, d.sync = (d1, 0) ∧ d1.row = [] ∧ d1.kill.restart fates = d2 ∧ d1.kill.row = [] ∧ d2.row = [] ∧ ∀ p : Nat, p < 6 → d2.read (p : Int) = (if ls.getD p [] = [] then blank else ls.getD p [], 0) := by
  obtain ⟨h1, h2, h3, h4, h5, h6⟩ := h
  have hpl : d.pages.length = 6 := by rw [h3]; simp
  have hq : ∀ q ∈ d.pages, q.length = 512 := by rw [h3]; intro q hq; rw [List.eq_of_mem_replicate hq]; exact length_blank
  have ha : d.asked 0 512 = 0 := by
    unfold asked; rw [h1, hpl]; simp
  have hc : d.counted 0 = (d, 0) := by unfold counted; rw [if_pos (by omega)]
  have hx : ∀ x ∈ d.row, x.1 < d.pages.length ∧ x.2.length = 512 := by rw [hpl]; exact h6
  have hpw := donePages_wf (fun _ => 512) (by simp) d.pages hq d.row hx
  have hdone : ∀ p, (d.done fun _ => 512).pages.getD p [] = seenIn p (d.pages.getD p []) d.row := fun p => done_seen d.row 0 d.pages p hq hx
  have hdp : (d.done fun _ => 512).pages.length = 6 := hpw.1.trans hpl
  have hre : (d.done fun _ => 512).kill.restart fates = { d.done (fun _ => 512) with dead := false, left := -1 } := rfl
  refine ⟨d.done fun _ => 512, _, by simp [sync, ha, hc], rfl, rfl, rfl, rfl, fun p hp => ?_⟩
  rw [hre]
  have hasked : ({ d.done (fun _ => 512) with dead := false, left := -1 } : DiskM).asked (p : Int) 512 = 0 := by
    unfold asked
    simp only [Bool.false_eq_true, if_false]
    rw [if_neg (by rw [hdp]; omega)]
  have hseen : ({ d.done (fun _ => 512) with dead := false, left := -1 } : DiskM).seen p = (d.done fun _ => 512).pages.getD p [] := rfl
  unfold read
  rw [hasked]
  simp only [ne_eq, not_true_eq_false, if_false, Int.toNat_natCast]
  rw [hseen, hdone, ← h5 p hp]
  have : d.pages.getD p [] = blank := by
    rw [h3]
    simp only [List.getD_eq_getElem?_getD, List.getElem?_replicate, hp, if_true, Option.getD_some]
  rw [this]
end DiskM

/-- texts as cells. -/
def tvs (ls : List (List UInt8)) : List Value := ls.map fun b => .string ⟨b.toArray⟩
theorem tvs_set (ls : List (List UInt8)) (i : Nat) (b : List UInt8) : (tvs ls).set i (.string ⟨b.toArray⟩) = tvs (ls.set i b) := by simp [tvs, List.map_set]
theorem get_tvs (ls : List (List UInt8)) (i : Nat) (h : i < ls.length) : (tvs ls)[i]? = some (.string ⟨(ls.getD i []).toArray⟩) := by
  simp [tvs, h]
theorem inf9 : (Try.prog.info? 9).map (fun i => (i.zero.map (fun z => z.cells.toList), i.size, i.bytes)) = some (some [.string ⟨#[]⟩], 1, 16) := by kernel_rfl
theorem does7_is {w : World} {o : Own} {D p : Nat} {d d1 : DiskM} {e1 : Int} (h : DiskAt w o D p d) (hD : D ≠ 0) (hrow : d.row.length ≤ 1000000) (a : Act7) (hok : a.ok) (hi : Ints w o a.fv a.fates) (he : Hid (d.does7 a = (d1, e1))) :
    Calls Try.prog 31 #[.pointer (some ⟨p, 0, none⟩), .agg a.cells.toArray] w (Ret (Only D) w o fun v w' o' => v = .int .i64 e1 ∧ DiskAt w' o' D p d1) := by
  have := does7_any h hD hrow a hok hi
  rw [he.out] at this; exact this
theorem n60 : (DiskM.new 6).row.length ≤ 1000000 := by decide +kernel
theorem length_sheet (a : Act7) : a.sheet.length = 512 := length_sheetL _ _ _

set_option maxRecDepth 100000 in
set_option maxHeartbeats 1600000 in
theorem synced_many {w : World} {o : Own} {v fv : Value} {l : List Act7} {fates : List Int} (ha : Acts7 w o v l) (hf : Ints w o fv fates) (hm : 0 < many7 l ∨ 100 < fates.length) : Calls Try.prog 5 #[v, fv] w (Ret Nobody w o fun v _ _ => v = .bool true) := by
  obtain ⟨fa, fc, rfl⟩ := slc_form hf
  by_cases h1 : 0 < many7 l
  · go_enter Try.func5, Try.ntmps5
    go_wp2_with fail
    refine (many7_any ha).mono ?_; rintro e w' ⟨rfl, rfl⟩
    go_wp2_with fail
    refine (wakes_any _ o).mono ?_; rintro e wc ⟨v, oc, rfl, hs, rfl⟩
    go_wp2_with fail
    go_ret
    exact ⟨_, oc, rfl, hs, rfl⟩
  · have h2 : (100 : Int) < (fates.length : Int) := by omega
    clear hm
    go_enter Try.func5, Try.ntmps5
    go_wp2_with fail
    refine (many7_any ha).mono ?_; rintro e w' ⟨rfl, rfl⟩
    go_wp2_with fail
    refine (wakes_any _ o).mono ?_; rintro e wc ⟨v, oc, rfl, hs, rfl⟩
    go_wp2_with fail
    go_ret
    exact ⟨_, oc, rfl, hs, rfl⟩

set_option maxRecDepth 100000 in
set_option maxHeartbeats 6400000 in
theorem synced_main {w : World} {o : Own} {v fv : Value} {l : List Act7} {fates : List Int} (ha : Acts7 w o v l) (hf : Ints w o fv fates) (hfw : ∀ a ∈ fates, -9223372036854775808 ≤ a ∧ a ≤ 9223372036854775807) (hm : ¬ 0 < many7 l) (hm2 : ¬ 100 < fates.length) :
    Calls Try.prog 5 #[v, fv] w (Ret Nobody w o fun v _ _ => v = .bool true) := by
  obtain ⟨fa, fc, rfl⟩ := slc_form hf
  obtain ⟨aa, ac, rfl⟩ := ha.form
  have hl80 : l.length ≤ 80 := by
    unfold many7 at hm
    split at hm
    · omega
    · omega
  have hm2I : ¬ (100 : Int) < (fates.length : Int) := by omega
  have hlI : (l.length : Int) ≤ 80 := by omega
  have hfwH := hidden hfw
  clear hfw hm2
  obtain ⟨D, hD0, hDf⟩ := fresh_tag o w.heap.size 0
  have hD : D ≠ 0 := by omega
  have hN : ¬ Only D 0 := fun h => hD h.symm
  clear hD0
  go_enter Try.func5, Try.ntmps5
  have hDE : D ≠ D + 1 := by omega
  go_wp2_with fail
  refine (many7_any ha).mono ?_; rintro e w' ⟨rfl, rfl⟩
  go_wp2_with fail
  refine (new_is (o := o) 6 D (by omega) (by omega) rfl).mono ?_; rintro e wc ⟨v, oc, rfl, hst, p, hp, rfl, hd⟩; have hst := hst.only D
  have hmk := run_make_zero (P := Try.prog) wc 41 9 _ 1 16 Try.underlying41 inf9 rfl 6 (by omega) (by omega) .i64 .i64
  have hz : (List.replicate 6 [Value.string ⟨#[]⟩]).flatten = tvs (List.replicate 6 []) := rfl
  rw [hz] at hmk
  have hs := (Step.refl Nobody wc oc).alloc (.cells (tvs (List.replicate 6 [])).toArray 9) (D + 1, 0)
  have hd := hd.step hs (fun x => x); have hsz := hst.size; have hst := hst.trans (hs.only D)
  have hlb : (wc.alloc (.cells (tvs (List.replicate 6 [])).toArray 9)).heap[wc.heap.size]? = some (.cells (tvs (List.replicate 6 [])).toArray 9 (0, 0)) := heap_alloc_new wc _
  have hlo : tagAt oc wc.heap.size (D + 1, 0) wc.heap.size = (D + 1, 0) := tagAt_same _ _ _
  have hmkH := hidden hmk
  clear hmk hz hs
  generalize hW : wc.alloc (.cells (tvs (List.replicate 6 [])).toArray 9) = W at *
  generalize tagAt oc wc.heap.size (D + 1, 0) = oW at *
  have hlbw : w.heap.size ≤ wc.heap.size := hsz
  generalize hlbe : wc.heap.size = lb at *
  clear hlbe hW
  go_wp2_with ((with_reducible apply lit_makeSlice); exact hmkH.out; simp only [Act.put, List.setIfInBounds_toArray, List.set_cons_zero, List.set_cons_succ])
  go_loopw [8] (fun i wr => ∃ (k : Nat) (oj : Own) (dj : DiskM) (ls : List (List UInt8)), k ≤ l.length ∧ i = .int .i64 k ∧ DiskAt wr oj D p dj ∧ Step (Only D) w o wr oj ∧ dj.Syn ls ∧ dj.row.length ≤ k ∧ wr.heap[lb]? = some (.cells (tvs ls).toArray 9 (0, 0)) ∧ oj lb = (D + 1, 0))
    (fun i _ => l.length - (intOf i).toNat)
  case atStart => exact ⟨0, oW, DiskM.new 6, List.replicate 6 [], Nat.zero_le _, rfl, hd, hst, DiskM.syn_new, by decide +kernel, hlb, hlo⟩
  case round =>
    clear hd hst hlb hlo
    obtain ⟨k, oj, dj, ls, hk, rfl, hd, hst, hsyn', hrk, hlb, hlo⟩ := hrel
    have hsyn : dj.Syn ls := hsyn'
    clear hsyn'
    have hsynH := hidden hsyn
    have hlbl := lt_of_block hlb
    have hls6 : ls.length = 6 := hsyn.2.2.2.1
    clear hsyn
    by_cases hlt : k < l.length
    · have haw := ha.step hst hN
      obtain ⟨b, off, hab, _, hbo, hbl, hr, hi, hok⟩ := haw.at k hlt
      subst hab
      obtain ⟨va, vc, hfv⟩ := slc_form hi
      have hrow : dj.row.length ≤ 1000000 := by omega
      have hdec := fun (h0 : l[k].do_ % 6 = 0) => DiskM.syn_write hsynH.out l[k].at' l[k].sheet (length_sheet _)
      have hdo : l[k].do_ % 6 = 0 → dj.does7 l[k] = dj.write l[k].at' l[k].sheet := fun h0 => by unfold DiskM.does7; rw [if_pos h0]
      have hbd := hok.1
      have hsht : l[k].sheet = sheetL (UInt8.ofNat l[k].b.toNat) (UInt8.ofNat l[k].st.toNat) 512 := rfl
      have hb2 := hok.2.2.1
      have hb3 := hok.2.2.2.1
      have c0 : wr.cell? ⟨b, off + k * 5, none⟩ = some (.int .u8 l[k].do_) := hr 0 _ rfl
      have c1 : wr.cell? ⟨b, off + k * 5 + 1, none⟩ = some (.int .i64 l[k].at') := hr 1 _ rfl
      have c2 : wr.cell? ⟨b, off + k * 5 + 2, none⟩ = some (.int .u8 l[k].b) := hr 2 _ rfl
      have c3 : wr.cell? ⟨b, off + k * 5 + 3, none⟩ = some (.int .u8 l[k].st) := hr 3 _ rfl
      have c4 : wr.cell? ⟨b, off + k * 5 + 4, none⟩ = some (.slice va l[k].fates.length vc) := by rw [← hfv]; exact hr 4 _ rfl
      have hokH := hidden hok
      have hdecH := hidden hdec
      have hdoH := hidden hdo
      have hshtH := hidden hsht
      clear hr hok hdec hdo haw hsht
      generalize l[k] = act at *
      obtain ⟨ax, ay, ab, as', afv, afs⟩ := act
      simp only at hbd hb2 hb3 c0 c1 c2 c3 c4 hi hokH hdecH hdoH hshtH hfv ⊢
      subst hfv
      by_cases h0 : ax % 6 = 0
      · have hdE := (hdoH.out h0)
        rcases hdecH.out h0 with ⟨d', hw, ha0, ha6, hsn, hrl⟩ | hw
        · have hE : Hid (dj.does7 ⟨ax, ay, ab, as', .slice va afs.length vc, afs⟩ = (d', 0)) := hdE.trans hw
          have hsnH := hidden hsn
          clear hdE hw hdecH hdoH hsn
          have hb00 := hbd.1
          have hb01 := hbd.2
          go_wp2_with fail
          refine (does7_is hd hD hrow ⟨ax, ay, ab, as', .slice va afs.length vc, afs⟩ hokH.out hi hE).mono ?_; rintro e wc ⟨v, oc, rfl, hs, rfl, hd⟩; have hst := hst.trans hs
          have hb2' := hs.block b hbl (by rw [hbo]; exact hN)
          have hbl2 := Nat.lt_of_lt_of_le hbl hs.size
          have hbo2 : (oc b).1 = 0 := by rw [hs.own b hbl]; exact hbo
          have hlb2 : wc.heap[lb]? = some (.cells (tvs ls).toArray 9 (0, 0)) := by rw [hs.block lb hlbl (by rw [hlo]; exact fun h => hDE h.symm)]; exact hlb
          have hlo2 : oc lb = (D + 1, 0) := by rw [hs.own lb hlbl]; exact hlo
          have hlbl2 := Nat.lt_of_lt_of_le hlbl hs.size
          have k1 : wc.cell? ⟨b, off + k * 5 + 1, none⟩ = some (.int .i64 ay) := by rw [World.cell?_of_block (a := ⟨b, off + k * 5 + 1, none⟩) hb2']; exact c1
          have k2 : wc.cell? ⟨b, off + k * 5 + 2, none⟩ = some (.int .u8 ab) := by rw [World.cell?_of_block (a := ⟨b, off + k * 5 + 2, none⟩) hb2']; exact c2
          have k3 : wc.cell? ⟨b, off + k * 5 + 3, none⟩ = some (.int .u8 as') := by rw [World.cell?_of_block (a := ⟨b, off + k * 5 + 3, none⟩) hb2']; exact c3
          have ha0' := ha0
          have ha6' := ha6
          clear c0 c1 c2 c3 c4 hb2' hlb hlo hi
          go_wp2_with fail
          have hst := hst.drew
          have hd := hd.step ((Step.refl Nobody _ _).drew) (fun x => x)
          refine wp_region_need (fun w' => w'.cell? ⟨b, off + k * 5 + 1, none⟩ = some (.int .i64 ay) ∧ w'.cell? ⟨b, off + k * 5 + 2, none⟩ = some (.int .u8 ab) ∧ w'.cell? ⟨b, off + k * 5 + 3, none⟩ = some (.int .u8 as')) (fun _ => true) (by kernel_rfl) ⟨k1, k2, k3⟩ (fun hHeld => ?_)
          refine wpAnyN_take (i := 0) (v := ?_) rfl (by kernel_rfl) (by kernel_rfl) (by kernel_rfl) (by kernel_rfl) (fun _ _ _ h => h) (Or.inl ⟨by rfl, ?_⟩) (by assumption) ?_
          rotate_left
          · intro w hSw; ((try dsimp only at hSw); go_simp; (try with_reducible rfl))
          simp only [Act.put, List.setIfInBounds_toArray, List.set_cons_zero, List.set_cons_succ]
          refine wpAnyN_take (i := 1) (v := ?_) rfl (by kernel_rfl) (by kernel_rfl) (by kernel_rfl) (by kernel_rfl) (fun _ _ _ h => h) (Or.inl ⟨by rfl, ?_⟩) (by assumption) ?_
          rotate_left
          · intro w hSw; ((try dsimp only at hSw); go_simp; (try with_reducible rfl))
          simp only [Act.put, List.setIfInBounds_toArray, List.set_cons_zero, List.set_cons_succ]
          refine wpAnyN_take (i := 2) (v := ?_) rfl (by kernel_rfl) (by kernel_rfl) (by kernel_rfl) (by kernel_rfl) (fun _ _ _ h => h) (Or.inl ⟨by rfl, ?_⟩) (by assumption) ?_
          rotate_left
          · intro w hSw; ((try dsimp only at hSw); go_simp; (try with_reducible rfl))
          simp only [Act.put, List.setIfInBounds_toArray, List.set_cons_zero, List.set_cons_succ]
          refine wpAnyN_take (i := 3) (v := ?_) rfl (by kernel_rfl) (by kernel_rfl) (by kernel_rfl) (by kernel_rfl) (fun _ _ _ h => h) (Or.inl ⟨by rfl, ?_⟩) (by assumption) ?_
          rotate_left
          · intro w hSw; ((try dsimp only at hSw); go_simp; (try with_reducible rfl))
          simp only [Act.put, List.setIfInBounds_toArray, List.set_cons_zero, List.set_cons_succ]
          refine wpAnyN_take (i := 4) (v := ?_) rfl (by kernel_rfl) (by kernel_rfl) (by kernel_rfl) (by kernel_rfl) (fun _ _ _ h => h) (Or.inl ⟨by rfl, ?_⟩) (by assumption) ?_
          rotate_left
          · intro w hSw; ((try dsimp only at hSw); go_simp; (try with_reducible rfl))
          simp only [Act.put, List.setIfInBounds_toArray, List.set_cons_zero, List.set_cons_succ]
          refine wpAnyN_take (i := 5) (v := ?_) rfl (by kernel_rfl) (by kernel_rfl) (by kernel_rfl) (by kernel_rfl) (fun _ _ _ h => h) (Or.inl ⟨by rfl, ?_⟩) (by assumption) ?_
          rotate_left
          · intro w hSw; ((try dsimp only at hSw); go_simp; (try with_reducible rfl))
          simp only [Act.put, List.setIfInBounds_toArray, List.set_cons_zero, List.set_cons_succ]
          refine wpAnyN_take (i := 6) (v := ?_) rfl (by kernel_rfl) (by kernel_rfl) (by kernel_rfl) (by kernel_rfl) (fun _ _ _ h => h) (Or.inl ⟨by rfl, ?_⟩) (by assumption) ?_
          rotate_left
          · intro w hSw; ((try dsimp only at hSw); go_simp; (try with_reducible rfl))
          simp only [Act.put, List.setIfInBounds_toArray, List.set_cons_zero, List.set_cons_succ]
          refine wpAnyN_take (i := 7) (v := ?_) rfl (by kernel_rfl) (by kernel_rfl) (by kernel_rfl) (by kernel_rfl) (fun _ _ _ h => h) (Or.inl ⟨by rfl, ?_⟩) (by assumption) ?_
          rotate_left
          · intro w hSw; ((try dsimp only at hSw); go_simp; (try with_reducible rfl))
          simp only [Act.put, List.setIfInBounds_toArray, List.set_cons_zero, List.set_cons_succ]
          refine wpAnyN_take (i := 8) (v := ?_) rfl (by kernel_rfl) (by kernel_rfl) (by kernel_rfl) (by kernel_rfl) (fun _ _ _ h => h) (Or.inl ⟨by rfl, ?_⟩) (by assumption) ?_
          rotate_left
          · intro w hSw; ((try dsimp only at hSw); go_simp; (try with_reducible rfl))
          simp only [Act.put, List.setIfInBounds_toArray, List.set_cons_zero, List.set_cons_succ]
          refine wpAnyN_take (i := 9) (v := ?_) rfl (by kernel_rfl) (by kernel_rfl) (by kernel_rfl) (by kernel_rfl) (fun _ _ _ h => h) (Or.inl ⟨by rfl, ?_⟩) (by assumption) ?_
          rotate_left
          · intro w hSw; ((try dsimp only at hSw); go_simp; (try with_reducible rfl))
          simp only [Act.put, List.setIfInBounds_toArray, List.set_cons_zero, List.set_cons_succ]
          refine wpAnyN_take (i := 10) (v := ?_) rfl (by kernel_rfl) (by kernel_rfl) (by kernel_rfl) (by kernel_rfl) (fun _ _ _ h => h) (Or.inl ⟨by rfl, ?_⟩) (by assumption) ?_
          rotate_left
          · intro w hSw; ((try dsimp only at hSw); go_simp; (try with_reducible rfl))
          simp only [Act.put, List.setIfInBounds_toArray, List.set_cons_zero, List.set_cons_succ]
          refine wpAnyN_take (i := 11) (v := ?_) rfl (by kernel_rfl) (by kernel_rfl) (by kernel_rfl) (by kernel_rfl) (fun _ _ _ h => h) (Or.inl ⟨by rfl, ?_⟩) (by assumption) ?_
          rotate_left
          · intro w hSw; ((try dsimp only at hSw); go_simp; (try with_reducible rfl))
          simp only [Act.put, List.setIfInBounds_toArray, List.set_cons_zero, List.set_cons_succ]
          refine wpAnyN_take (i := 12) (v := ?_) rfl (by kernel_rfl) (by kernel_rfl) (by kernel_rfl) (by kernel_rfl) (fun _ _ _ h => h) (Or.inl ⟨by rfl, ?_⟩) (by assumption) ?_
          rotate_left
          · intro w hSw; ((try dsimp only at hSw); go_simp; (try with_reducible rfl))
          simp only [Act.put, List.setIfInBounds_toArray, List.set_cons_zero, List.set_cons_succ]
          refine wpAnyN_take (i := 13) (v := ?_) rfl (by kernel_rfl) (by kernel_rfl) (by kernel_rfl) (by kernel_rfl) (fun _ _ _ h => h) (Or.inl ⟨by rfl, ?_⟩) (by assumption) ?_
          rotate_left
          · intro w hSw; ((try dsimp only at hSw); go_simp; (try with_reducible rfl))
          simp only [Act.put, List.setIfInBounds_toArray, List.set_cons_zero, List.set_cons_succ]
          refine wpAnyN_take (i := 14) (v := ?_) rfl (by kernel_rfl) (by kernel_rfl) (by kernel_rfl) (by kernel_rfl) (fun _ _ _ h => h) (Or.inl ⟨by rfl, ?_⟩) (by assumption) ?_
          rotate_left
          · intro w hSw; ((try dsimp only at hSw); go_simp; (try with_reducible rfl))
          simp only [Act.put, List.setIfInBounds_toArray, List.set_cons_zero, List.set_cons_succ]
          refine wpAnyN_take (i := 15) (v := ?_) rfl (by kernel_rfl) (by kernel_rfl) (by kernel_rfl) (by kernel_rfl) (fun _ _ _ h => h) (Or.inl ⟨by rfl, ?_⟩) (by assumption) ?_
          rotate_left
          · intro w hSw; ((try dsimp only at hSw); go_simp; (try with_reducible rfl))
          simp only [Act.put, List.setIfInBounds_toArray, List.set_cons_zero, List.set_cons_succ]
          refine wpAnyN_one (i := 16) rfl (by kernel_rfl) ?_
          go_wp2_with fail
          refine (sheet_int ab as' hb2 hb3 _ oc).mono ?_; rintro e we ⟨v, oe, rfl, hs2, hb⟩; have hb := hb.bytes; rw [← hshtH.out] at hb; have hd := hd.step hs2 (fun x => x); have hst := hst.trans (hs2.only D)
          have e1 := hs2.block b hbl2 (fun x => x)
          have hS1 : we.cell? ⟨b, off + k * 5 + 1, none⟩ = some (.int .i64 ay) ∧ we.cell? ⟨b, off + k * 5 + 2, none⟩ = some (.int .u8 ab) ∧ we.cell? ⟨b, off + k * 5 + 3, none⟩ = some (.int .u8 as') :=
            ⟨by rw [World.cell?_of_block (a := ⟨b, off + k * 5 + 1, none⟩) e1]; exact hHeld.1, by rw [World.cell?_of_block (a := ⟨b, off + k * 5 + 2, none⟩) e1]; exact hHeld.2.1, by rw [World.cell?_of_block (a := ⟨b, off + k * 5 + 3, none⟩) e1]; exact hHeld.2.2⟩
          have hlb3 : we.heap[lb]? = some (.cells (tvs ls).toArray 9 (0, 0)) := by rw [hs2.block lb hlbl2 (fun x => x)]; exact hlb2
          have hlo3 : oe lb = (D + 1, 0) := by rw [hs2.own lb hlbl2]; exact hlo2
          have hcv := conv_string hb
          go_wp2_with fail
          refine ⟨fun _ => hS1, ?_⟩
          have hcvH := hidden hcv
          clear hcv
          refine wpAnyN_one (i := 17) rfl (by kernel_rfl) ?_
          refine lit_convert hcvH.out ?_
          refine wpList_nil ?_
          simp only [Act.put, List.setIfInBounds_toArray, List.set_cons_zero, List.set_cons_succ]
          refine ⟨fun _ => hS1, ?_⟩
          refine wpAnyN_one (i := 18) rfl (by kernel_rfl) ?_
          go_wp2_with fail
          refine ⟨fun _ => hS1, ?_⟩
          obtain ⟨an, rfl⟩ := Int.eq_ofNat_of_zero_le ha0
          have han : an < 6 := by omega
          rw [Int.toNat_natCast] at hsnH ⊢
          have hcl : we.cell? ⟨lb, an, none⟩ = some (.string ⟨(ls.getD an []).toArray⟩) := by rw [cell_of_block hlb3 an, get_tvs ls an (by omega)]
          have hfl := free_of_block hlb3 an
          have hset := (Step.refl (Only (D + 1)) we oe).setCell (a := ⟨lb, an, none⟩) (.string ⟨(Act7.sheet ⟨ax, (an : Int), ab, as', .slice va afs.length vc, afs⟩).toArray⟩) (.inl (by rw [hlo3]; rfl))
          have hd := hd.step hset hDE
          have hst := hst.setCell (a := ⟨lb, an, none⟩) (.string ⟨(Act7.sheet ⟨ax, (an : Int), ab, as', .slice va afs.length vc, afs⟩).toArray⟩) (.inr hlbw)
          have hlb4 := heap_setCell_at (i := an) (.string ⟨(Act7.sheet ⟨ax, (an : Int), ab, as', .slice va afs.length vc, afs⟩).toArray⟩) hlb3
          rw [tvs_set] at hlb4
          have hbne : b ≠ lb := by rintro rfl; rw [hlo2] at hbo2; simp at hbo2
          refine wpAnyN_one (i := 19) rfl (by kernel_rfl) ?_
          go_wp2_with fail
          refine ⟨fun _ => ?_, ?_⟩
          · refine ⟨?_, ?_, ?_⟩ <;> (rw [World.cell?_setCell_other _ _ _ _ (by simp)]; first | exact hS1.1 | exact hS1.2.1 | exact hS1.2.2)
          refine wpAnyN_done (by kernel_rfl) ?_ _
          clear hcl hfl
          go_wp2_with fail
          go_roundw
          case rel => exact ⟨k + 1, oe, d', _, by omega, by go_num, hd, hst, hsnH.out, by omega, hlb4, hlo3⟩
          case measure => simp [intOf]; omega
        · have hE : Hid (dj.does7 ⟨ax, ay, ab, as', .slice va afs.length vc, afs⟩ = (dj, 1)) := hdE.trans hw
          clear hdE hw hdecH hdoH
          have hb00 := hbd.1
          have hb01 := hbd.2
          go_wp2_with fail
          refine (does7_is hd hD hrow ⟨ax, ay, ab, as', .slice va afs.length vc, afs⟩ hokH.out hi hE).mono ?_; rintro e wc ⟨v, oc, rfl, hs, rfl, hd⟩; have hst := hst.trans hs
          have hlb2 := hs.block lb hlbl (by rw [hlo]; exact fun h => hDE h.symm)
          go_wp2_with fail
          go_roundw
          case rel => exact ⟨k + 1, oc, dj, ls, by omega, by go_num, hd, hst, hsynH.out, by omega, by rw [hlb2]; exact hlb, by rw [hs.own lb hlbl]; exact hlo⟩
          case measure => simp [intOf]; omega
      · have h0b : (ax % 6 == 0) = false := by simpa using h0
        have hb00 := hbd.1
        have hb01 := hbd.2
        clear h0 hdecH hdoH
        go_wp2_with fail
        go_roundw
        case rel => exact ⟨k + 1, oj, dj, ls, by omega, by go_num, hd, hst, hsynH.out, by omega, hlb, hlo⟩
        case measure => simp [intOf]; omega
    · have hkl : k = l.length := by omega
      subst hkl
      have hrow : dj.row.length ≤ 1000000 := by omega
      obtain ⟨d1, d2, q1, q2, q3, q4, q5, q6⟩ := DiskM.syn_end hsynH.out fates
      have Q1 := hidden q1
      have Q2 := hidden q2
      have Q3 := hidden q3
      have Q4 := hidden q4
      have Q5 := hidden q5
      have Q6 := hidden q6
      clear q1 q2 q3 q4 q5 q6
      go_wp2_with fail
      refine (sync_is hd hrow Q1.out).mono ?_; rintro e wc ⟨v, oc, rfl, hs, rfl, hd⟩; have hst := hst.trans hs
      have hlb2 := hs.block lb hlbl (by rw [hlo]; exact fun h => hDE h.symm); have hlo2 := hs.own lb hlbl; have hlbl2 := Nat.lt_of_lt_of_le hlbl hs.size; rw [hlb] at hlb2; rw [hlo] at hlo2
      go_wp2_with fail
      refine (waiting_any hd).mono ?_; rintro e w' ⟨rfl, rfl⟩; rw [Q2.out]
      go_wp2_with fail
      refine (kill_any hd).mono ?_; rintro e wd ⟨v, od, rfl, hs2, rfl, hd⟩; have hst := hst.trans hs2
      have hlb3 := hs2.block lb hlbl2 (by rw [hlo2]; exact fun h => hDE h.symm); have hlo3 := hs2.own lb hlbl2; have hlbl3 := Nat.lt_of_lt_of_le hlbl2 hs2.size; rw [hlb2] at hlb3; rw [hlo2] at hlo3
      have hfi := hf.step hst hN
      go_wp2_with fail
      refine (restart_is hd hD (by rw [Q4.out]; simp) _ fates hfi hfwH.out Q3.out).mono ?_; rintro e we ⟨v, oe, rfl, hs3, rfl, hd⟩; have hst := hst.trans hs3
      have hlb4 := hs3.block lb hlbl3 (by rw [hlo3]; exact fun h => hDE h.symm); have hlo4 := hs3.own lb hlbl3; rw [hlb3] at hlb4; rw [hlo3] at hlo4
      clear hlb hlo hlb2 hlo2 hlb3 hlo3 hfi
      go_wp2_with fail
      go_loopw [9] (fun i wr => ∃ (m : Nat) (ox : Own), m ≤ 6 ∧ i = .int .i64 m ∧ DiskAt wr ox D p d2 ∧ Step (Only D) w o wr ox ∧ wr.heap[lb]? = some (.cells (tvs ls).toArray 9 (0, 0)) ∧ ox lb = (D + 1, 0))
        (fun i _ => 6 - (intOf i).toNat)
      case atStart => exact ⟨0, oe, by omega, rfl, hd, hst, hlb4, hlo4⟩
      case round =>
        clear hd hst hlb4 hlo4
        obtain ⟨m, ox, hm6, rfl, hd, hst, hlb, hlo⟩ := hrel
        have hrow2 : d2.row.length ≤ 1000000 := by rw [Q5.out]; simp
        by_cases hlt2 : m < 6
        · have hrd := Q6.out m hlt2
          have hcl := get_tvs ls m (by omega)
          generalize hq : ls.getD m [] = q at *
          clear hq
          by_cases hqe : q = []
          · subst hqe
            rw [if_pos rfl] at hrd
            have hRD := hidden hrd
            clear hrd
            go_wp2_with fail
            refine (read_is hd hrow2 m hRD.out).mono ?_; rintro e wx ⟨v, oy, rfl, hs, vb, rfl, hn⟩; have hst := hst.trans (hs.only D); have hd := hd.step hs (fun x => x)
            have hlbl := lt_of_block hlb
            have hlb2 := hs.block lb hlbl (fun x => x); have hlo2 := hs.own lb hlbl; rw [hlb] at hlb2; rw [hlo] at hlo2
            have hlbl2 := lt_of_block hlb2
            have hby := hn.bytes
            obtain ⟨va, vc, rfl⟩ := slc_form hby
            have hcm : wx.cell? ⟨lb, m, none⟩ = some (.string ⟨([] : List UInt8).toArray⟩) := by rw [cell_of_block hlb2 m]; exact hcl
            have hmk := run_make_zero (P := Try.prog) wx 28 5 _ 1 1 Try.underlying28 inf5 rfl 512 (by omega) (by omega) .i64 .i64
            rw [zeros_bvs] at hmk
            have hs4 : Step Nobody wx oy (wx.alloc (.cells (bvs DiskM.blank).toArray 5)) (tagAt oy wx.heap.size (0, 0)) := (Step.refl Nobody wx oy).alloc _ _
            have hbz : Bytes (wx.alloc (.cells (bvs DiskM.blank).toArray 5)) (tagAt oy wx.heap.size (0, 0)) (.slice (some ⟨wx.heap.size, 0, none⟩) 512 512) DiskM.blank := bytes_zeros wx oy 512 (by omega)
            have hcz := conv_string hbz
            have hcv4 := conv_string (hby.step hs4 (fun x => x))
            have hmk' : (Instr.makeSlice 28 (.int .i64 ((512 : Nat) : Int)) (.int .i64 ((512 : Nat) : Int))).run Try.prog wx = .ok (.slice (some ⟨wx.heap.size, 0, none⟩) 512 512) (wx.alloc (.cells (bvs DiskM.blank).toArray 5)) := hmk
            have hmkH := hidden hmk'
            have hd := hd.step hs4 (fun x => x); have hst := hst.trans (hs4.only D)
            have hlb3 := hs4.block lb hlbl2 (fun x => x); have hlo3 := hs4.own lb hlbl2; rw [hlb2] at hlb3; rw [hlo2] at hlo3
            rw [length_blank] at hcv4 ⊢
            clear hmk hmk' hs4 hbz hby hcl hn
            generalize wx.alloc (.cells (bvs DiskM.blank).toArray 5) = wy at *
            generalize tagAt oy wx.heap.size (0, 0) = oz at *
            generalize DiskM.blank = bl at *
            go_wp2_with ((with_reducible apply lit_makeSlice); exact hmkH.out; simp only [Act.put, List.setIfInBounds_toArray, List.set_cons_zero, List.set_cons_succ])
            go_roundw
            case rel => exact ⟨m + 1, oz, by omega, by go_num, hd, hst, hlb3, hlo3⟩
            case measure => simp [intOf]; omega
          · rw [if_neg hqe] at hrd
            have hRD := hidden hrd
            clear hrd
            go_wp2_with fail
            refine (read_is hd hrow2 m hRD.out).mono ?_; rintro e wx ⟨v, oy, rfl, hs, vb, rfl, hn⟩; have hst := hst.trans (hs.only D); have hd := hd.step hs (fun x => x)
            have hlbl := lt_of_block hlb
            have hlb2 := hs.block lb hlbl (fun x => x); have hlo2 := hs.own lb hlbl; rw [hlb] at hlb2; rw [hlo] at hlo2
            have hby := hn.bytes
            obtain ⟨va, vc, rfl⟩ := slc_form hby
            have hcm : wx.cell? ⟨lb, m, none⟩ = some (.string ⟨q.toArray⟩) := by rw [cell_of_block hlb2 m]; exact hcl
            have hcv4 := conv_string hby
            have hqi : q.isEmpty = false := by cases q <;> simp_all
            clear hby hcl hn
            go_wp2_with fail
            go_roundw
            case rel => exact ⟨m + 1, oy, by omega, by go_num, hd, hst, hlb2, hlo2⟩
            case measure => simp [intOf]; omega
        · have hm : m = 6 := by omega
          subst hm
          go_wp2_with fail
          refine (wakes_any _ ox).mono ?_; rintro e wx ⟨v, oy, rfl, hs, rfl⟩; have hst := hst.trans (hs.only D)
          go_wp2_with fail
          go_ret
          exact ⟨_, oy, rfl, hst.nobody hDf, rfl⟩
end Go.Proofs.YtfgggkheadfiaaaR
