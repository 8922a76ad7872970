/- Contract: the records are read from the leaves. -/
import Derived.Test.YtfgggkheadfiaaaRSq2
import Derived.Test.YtfgggkheadfiaaaRSq3
import Derived.Test.YtfgggkheadfiaaaRSq4
namespace Go.Proofs.YtfgggkheadfiaaaR
open Go Go.RowKit
attribute [local go_sem ↓] Go.wp_at_zero Go.wp_at_succ

/-- v reads as the leaves ls: plain data. -/
def LvsAt (w : World) (o : Own) (v : Value) (ls : List LeafM) : Prop := ∃ b off cap bvs, v = .slice (some ⟨b, off, none⟩) ls.length cap ∧ ls.length ≤ cap ∧ cap ≤ maxLen ∧ (o b).1 = 0 ∧ b < w.heap.size ∧ RowsB w o bvs (ls.map LeafM.bytes) ∧
  ∀ (i : Nat) x bv, ls[i]? = some x → bvs[i]? = some bv → w.rangeAt b (off + i * 4) (leafV x bv)
theorem LvsAt.step {T : Nat → Prop} {w w' : World} {o o' : Own} {v : Value} {ls : List LeafM} (h : LvsAt w o v ls) (s : Step T w o w' o') (hT : ¬ T 0) : LvsAt w' o' v ls := by
  obtain ⟨b, off, cap, bvs, hv, h1, h2, h3, h4, h5, h6⟩ := h
  exact ⟨b, off, cap, bvs, hv, h1, h2, by rw [s.own b h4]; exact h3, Nat.lt_of_lt_of_le h4 s.size, h5.step s hT, fun i x bv hx hb => range_same (h6 i x bv hx hb) (s.block b h4 (by rw [h3]; exact hT))⟩
theorem LvsAt.at {w : World} {o : Own} {v : Value} {ls : List LeafM} (h : LvsAt w o v ls) : ∃ b off cap, v = .slice (some ⟨b, off, none⟩) ls.length cap ∧ ls.length ≤ cap ∧ cap ≤ maxLen ∧
    ∀ i x, ls[i]? = some x → ∃ bv, Bytes w o bv x.bytes ∧ w.rangeAt b (off + i * 4) (leafV x bv) := by
  obtain ⟨b, off, cap, bvs, hv, h1, h2, h3, h4, h5, h6⟩ := h
  refine ⟨b, off, cap, hv, h1, h2, fun i x hx => ?_⟩
  have hi : i < bvs.length := by rw [h5.1, List.length_map]; exact (List.getElem?_eq_some_iff.1 hx).1
  exact ⟨bvs[i], h5.2 i _ _ (List.getElem?_eq_getElem hi) (by rw [List.getElem?_map, hx]; rfl), h6 i x _ hx (List.getElem?_eq_getElem hi)⟩
def endOf (p n : Nat) (w : World) : Nat := match w.cell? ⟨p, 5, none⟩ with
  | some (.int _ e) => n - e.toNat
  | _ => 0
theorem load139 {w : World} {b off : Nat} {x : LeafM} {bv : Value} (hr : w.rangeAt b off (leafV x bv)) : (Instr.loadAt 139 (.pointer (some ⟨b, off, none⟩))).run Try.prog w = .ok (.agg (leafV x bv).toArray) w := by
  simp only [Instr.loadAt, Instr.sureAddr, Sem.run_bind, Sem.run_pure, Result.andThen_ok]
  exact run_loadVar_mid w b off 139 (leafV x bv) _ hr Try.underlying139 rfl (by kernel_rfl)
theorem zc139 : ((Try.prog.info? 139).bind (·.zero)).map (·.cells) = some #[.int .u64 0, .int .i64 0, .int .i64 0, .slice none 0 0] := by kernel_rfl
theorem one_leafV {w : World} {o : Own} {x : LeafM} {bv : Value} (h : Bytes w o bv x.bytes) : (leafV x bv).all (·.oneCell') = true := by
  obtain ⟨a, c, rfl⟩ := slc_form h; rfl
section
variable {w : World} {o : Own} {L p pd : Nat} {m : LogM}
set_option maxRecDepth 100000 in
set_option maxHeartbeats 6400000 in
theorem lread_any (hL : L ≠ 0) (h : LogAt w o L p pd m) (ls : List LeafM) (lv : Value) (hlv : LvsAt w o lv ls) (h1 : 1 ≤ ls.length) (hn : ls.length ≤ m.n) (hb : ∀ x ∈ ls, x.bytes.length ≤ 480 ∧ x.of' < 65536 ∧ x.at' < 65536) (he : m.end' = 1) (hrs : m.records = []) :
    Calls Try.prog 79 #[.pointer (some ⟨p, 0, none⟩), lv] w (Ret (Only L) w o fun v w' o' => v = .tuple #[] ∧ LogAt w' o' L p pd { m with records := (LogM.readAll ls).2.2, end' := (LogM.readAll ls).1 }) := by
  have hN : ¬ Only L 0 := fun h => hL h.symm
  obtain ⟨g1, g2, g3, -⟩ := h.wf
  obtain ⟨b, off, cap, rfl, hcap, hcm, hat⟩ := hlv.at
  obtain ⟨x0, hx0⟩ : ∃ x0, ls[0]? = some x0 := ⟨_, List.getElem?_eq_getElem (by omega)⟩
  obtain ⟨bv0, hbv0, hr0⟩ := hat 0 x0 hx0
  have c00 := hr0 0 _ rfl
  simp only [Nat.zero_mul, Nat.add_zero] at c00
  have hhs : LogM.headStamp ls = x0.stamp := by
    cases ls with
    | nil => simp at hx0
    | cons y r => simp only [List.getElem?_cons_zero, Option.some.injEq] at hx0; subst hx0; rfl
  obtain ⟨N, hNl⟩ : ∃ N, ls.length = N := ⟨_, rfl⟩
  have hatH := hidden hat
  have hlvH := hidden hlv
  have hbH := hidden hb
  have hNH := hidden hNl
  have hfin : Hid (LogM.readAll ls = LogM.readL ls N (1, x0.stamp, [])) := hidden (by unfold LogM.readAll; rw [hhs, hNl])
  have hl0 : LogAt w o L p pd { m with records := [], end' := 1 } := by
    have : ({ m with records := [], end' := 1 } : LogM) = m := by cases m; simp only at he hrs; subst he; subst hrs; rfl
    rw [this]; exact h
  rw [hNl] at h1 hn hcap hlvH ⊢
  have hcm2 : (cap : Int) ≤ 9223372036854775807 := by simp only [maxLen] at hcm; omega
  have hcap2 : (N : Int) ≤ (cap : Int) := by omega
  have hN2 : (N : Int) ≤ 2000 := by omega
  have hN1 : (0 : Int) < (N : Int) := by omega
  clear hat hlv hb hNl hr0 hbv0 hhs hx0 h he hrs hcm
  go_enter Try.func79, Try.ntmps79
  go_wp2_with fail
  go_loopw [4] (fun s4 wr => ∃ (f e : Nat) (last : BitVec 64) (rs : List (List UInt8)) (o' : Own), s4 = .int .u64 (last.toNat : Int) ∧ Step (Only L) w o wr o' ∧ LogAt wr o' L p pd { m with records := rs, end' := e } ∧ N - e ≤ f ∧ 1 ≤ e ∧ e ≤ N ∧ Hid (LogM.readL ls N (1, x0.stamp, []) = LogM.readL ls f (e, last, rs)))
    (fun _ wr => endOf p N wr)
  case atStart => exact ⟨N, 1, x0.stamp, [], o, rfl, Step.refl _ _ _, hl0, by omega, Nat.le_refl _, h1, hidden rfl⟩
  case round =>
    obtain ⟨f, e, last, rs, o1, rfl, hst, hl, hf, he1, heN, hR⟩ := hrel
    clear hl0 c00
    have hheld := hl.held
    obtain ⟨-, -, -, -, -, d5, -⟩ := hheld
    simp only at d5
    have d5e : endOf p N wr = N - e := by unfold endOf; rw [d5]; simp
    have d5H := hidden d5e
    clear d5e
    by_cases hlt : e < N
    · obtain ⟨x, hx⟩ : ∃ x, ls[e]? = some x := ⟨_, List.getElem?_eq_getElem (by rw [hNH.out]; exact hlt)⟩
      have hlv1 := hlvH.out.step hst hN
      obtain ⟨b', off', cap', hv', -, -, hat'⟩ := hlv1.at
      simp only [Value.slice.injEq, Option.some.injEq, Addr.mk.injEq] at hv'
      obtain ⟨⟨rfl, rfl, -⟩, -, rfl⟩ := hv'
      obtain ⟨bv, hbv, hr⟩ := hat' e x hx
      have hatW := hidden hat'
      obtain ⟨hxl, hxo, hxa⟩ := hbH.out x (List.mem_of_getElem? hx)
      have hld := hidden (load139 hr)
      have hal := hidden (run_alloc_zero (P := Try.prog) wr 139 _ zc139)
      have hsw := setCells_alloc_whole wr #[.int .u64 0, .int .i64 0, .int .i64 0, .slice none 0 0] 139 (leafV x bv) rfl
      obtain ⟨hso, -⟩ := run_store_agg (P := Try.prog) (ty := 139) (vs := leafV x bv) (heap_alloc_new wr (.cells [.int .u64 0, .int .i64 0, .int .i64 0, .slice none 0 0].toArray 139)) rfl (by kernel_rfl) (one_leafV hbv)
      rw [hsw] at hso
      have hsoH := hidden hso
      have hsa := (Step.refl Nobody wr o1).alloc (.cells (leafV x bv).toArray 139) (0, 0)
      have hxb : (wr.alloc (.cells (leafV x bv).toArray 139)).heap[wr.heap.size]? = some (.cells (leafV x bv).toArray 139 (0, 0)) := heap_alloc_new wr _
      have hxo1 : tagAt o1 wr.heap.size (0, 0) wr.heap.size = (0, 0) := tagAt_same _ _ _
      have hl1 := hl.step hsa (fun h => h) (fun h => h)
      have hlv2 := hlv1.step hsa (fun h => h)
      have hbv1 := hbv.step hsa (fun h => h)
      have hst1 := hst.trans (hsa.only L)
      have helt : (e : Int) < (N : Int) := by omega
      have hxH := hidden hx
      clear hsw hso hat' hlv1 hr hbv hx
      go_wp2_with (first
        | ((with_reducible apply lit_load); exact hld.out; simp only [Act.put, List.setIfInBounds_toArray, List.set_cons_zero, List.set_cons_succ])
        | ((with_reducible apply lit_alloc); exact hal.out; simp only [Act.put, List.setIfInBounds_toArray, List.set_cons_zero, List.set_cons_succ])
        | ((with_reducible apply lit_store); exact hsoH.out; simp only [Act.put]))
      obtain ⟨W1, hW1⟩ : ∃ W1, wr.alloc (.cells (leafV x bv).toArray 139) = W1 := ⟨_, rfl⟩
      have hfinR : ∀ (w' : World) (o' : Own), Step (Only L) w o w' o' → LogAt w' o' L p pd { m with records := rs, end' := e } → LogM.accept ls e last = none →
          Ret (Only L) w o (fun v w' o' => v = .tuple #[] ∧ LogAt w' o' L p pd { m with records := (LogM.readAll ls).2.2, end' := (LogM.readAll ls).1 }) (.returned (.tuple #[])) w' := fun w' o' hs hl hacc => by
        rw [hfin.out, hR.out, LogM.readL_stop (s := (e, last, rs)) hacc]
        exact ⟨_, o', rfl, hs, rfl, hl⟩
      have hfinH := hidden hfinR
      clear hfinR
      rw [hW1] at hsa hxb hl1 hlv2 hbv1 hst1 ⊢
      generalize tagAt o1 wr.heap.size (0, 0) = o2 at *
      obtain ⟨xb, hxbe⟩ : ∃ xb, wr.heap.size = xb := ⟨_, rfl⟩
      have hxbge : w.heap.size ≤ xb := by rw [← hxbe]; exact hst.size
      rw [hxbe] at hxb hxo1 ⊢
      clear hW1 hxbe hld hal hsoH hsa d5
      have y0 := cell_of_block hxb 0
      have y2 := cell_of_block hxb 2
      simp only [leafV, List.getElem?_cons_zero, List.getElem?_cons_succ] at y0 y2
      have hheld := hl1.held
      obtain ⟨-, -, -, -, -, d5, -⟩ := hheld
      simp only at d5
      have hdr : Step Nobody W1 o2 W1.drew o2 := (Step.refl _ _ _).drew
      have hst2 := hst1.trans (hdr.only L)
      have hl2 := hl1.step hdr (fun h => h) (fun h => h)
      have hsubN : (N : Int) - (e : Int) = ((N - e : Nat) : Int) := by omega
      have hneq : ¬ (N ≤ e) := by omega
      by_cases hA : x.stamp.toNat ≤ last.toNat
      · have hacc : LogM.accept ls e last = none := by unfold LogM.accept; rw [hxH.out]; simp only; rw [if_pos (.inl hA)]
        have hAi : (x.stamp.toNat : Int) ≤ (last.toNat : Int) := by omega
        have haccH := hidden hacc
        clear hacc
        refine wp_region_need (fun w' => w'.cell? ⟨xb, 0, none⟩ = some (.int .u64 (x.stamp.toNat : Int)) ∧ w'.cell? ⟨xb, 2, none⟩ = some (.int .i64 (x.of' : Int)) ∧ w'.cell? ⟨p, 5, none⟩ = some (.int .i64 (e : Int))) (fun _ => true) (by kernel_rfl) ⟨y0, y2, d5⟩ (fun hHeld => ?_)
        refine wpAnyN_tk (i := 0) (v := ?_) rfl (by kernel_rfl) (fun _ _ _ h => h) (Or.inl ⟨by rfl, ?_⟩) (by assumption) ?_
        rotate_left
        · intro w hSw; ((try dsimp only at hSw); go_simp; (try with_reducible rfl))
        simp only [Act.put, List.setIfInBounds_toArray, List.set_cons_zero, List.set_cons_succ]
        refine wpAnyN_tk (i := 1) (v := ?_) rfl (by kernel_rfl) (fun _ _ _ h => h) (Or.inl ⟨by rfl, ?_⟩) (by assumption) ?_
        rotate_left
        · intro w hSw; ((try dsimp only at hSw); go_simp; (try with_reducible rfl))
        simp only [Act.put, List.setIfInBounds_toArray, List.set_cons_zero, List.set_cons_succ]
        refine wpAnyN_tk (i := 2) (v := ?_) rfl (by kernel_rfl) (fun _ _ _ h => h) (Or.inl ⟨by rfl, ?_⟩) (by assumption) ?_
        rotate_left
        · intro w hSw; ((try dsimp only at hSw); go_simp; (try with_reducible rfl))
        simp only [Act.put, List.setIfInBounds_toArray, List.set_cons_zero, List.set_cons_succ]
        refine wpAnyN_tk (i := 3) (v := ?_) rfl (by kernel_rfl) (fun _ _ _ h => h) (Or.inl ⟨by rfl, ?_⟩) (by assumption) ?_
        rotate_left
        · intro w hSw; ((try dsimp only at hSw); go_simp; (try with_reducible rfl))
        simp only [Act.put, List.setIfInBounds_toArray, List.set_cons_zero, List.set_cons_succ]
        refine wpAnyN_tk (i := 4) (v := ?_) rfl (by kernel_rfl) (fun _ _ _ h => h) (Or.inl ⟨by rfl, ?_⟩) (by assumption) ?_
        rotate_left
        · intro w hSw; ((try dsimp only at hSw); go_simp; (try with_reducible rfl))
        simp only [Act.put, List.setIfInBounds_toArray, List.set_cons_zero, List.set_cons_succ]
        refine wpAnyN_tk (i := 5) (v := undef) rfl (by kernel_rfl) (fun _ _ _ h => h) (Or.inr ⟨by rfl, rfl⟩) (by assumption) ?_
        simp only [Act.put, List.setIfInBounds_toArray, List.set_cons_zero, List.set_cons_succ]
        refine wpAnyN_tk (i := 6) (v := undef) rfl (by kernel_rfl) (fun _ _ _ h => h) (Or.inr ⟨by rfl, rfl⟩) (by assumption) ?_
        simp only [Act.put, List.setIfInBounds_toArray, List.set_cons_zero, List.set_cons_succ]
        refine wpAnyN_tk (i := 7) (v := undef) rfl (by kernel_rfl) (fun _ _ _ h => h) (Or.inr ⟨by rfl, rfl⟩) (by assumption) ?_
        simp only [Act.put, List.setIfInBounds_toArray, List.set_cons_zero, List.set_cons_succ]
        refine wpAnyN_tk (i := 8) (v := ?_) rfl (by kernel_rfl) (fun _ _ _ h => h) (Or.inl ⟨by rfl, ?_⟩) (by assumption) ?_
        rotate_left
        · intro w hSw; ((try dsimp only at hSw); go_simp; (try with_reducible rfl))
        simp only [Act.put, List.setIfInBounds_toArray, List.set_cons_zero, List.set_cons_succ]
        refine wpAnyN_tk (i := 9) (v := ?_) rfl (by kernel_rfl) (fun _ _ _ h => h) (Or.inl ⟨by rfl, ?_⟩) (by assumption) ?_
        rotate_left
        · intro w hSw; ((try dsimp only at hSw); go_simp; (try with_reducible rfl))
        simp only [Act.put, List.setIfInBounds_toArray, List.set_cons_zero, List.set_cons_succ]
        refine wpAnyN_tk (i := 10) (v := undef) rfl (by kernel_rfl) (fun _ _ _ h => h) (Or.inr ⟨by rfl, rfl⟩) (by assumption) ?_
        simp only [Act.put, List.setIfInBounds_toArray, List.set_cons_zero, List.set_cons_succ]
        refine wpAnyN_tk (i := 11) (v := undef) rfl (by kernel_rfl) (fun _ _ _ h => h) (Or.inr ⟨by rfl, rfl⟩) (by assumption) ?_
        simp only [Act.put, List.setIfInBounds_toArray, List.set_cons_zero, List.set_cons_succ]
        refine wpAnyN_tk (i := 12) (v := undef) rfl (by kernel_rfl) (fun _ _ _ h => h) (Or.inr ⟨by rfl, rfl⟩) (by assumption) ?_
        simp only [Act.put, List.setIfInBounds_toArray, List.set_cons_zero, List.set_cons_succ]
        refine wpAnyN_tk (i := 13) (v := undef) rfl (by kernel_rfl) (fun _ _ _ h => h) (Or.inr ⟨by rfl, rfl⟩) (by assumption) ?_
        simp only [Act.put, List.setIfInBounds_toArray, List.set_cons_zero, List.set_cons_succ]
        refine wpAnyN_tk (i := 14) (v := undef) rfl (by kernel_rfl) (fun _ _ _ h => h) (Or.inr ⟨by rfl, rfl⟩) (by assumption) ?_
        simp only [Act.put, List.setIfInBounds_toArray, List.set_cons_zero, List.set_cons_succ]
        refine wpAnyN_tk (i := 15) (v := undef) rfl (by kernel_rfl) (fun _ _ _ h => h) (Or.inr ⟨by rfl, rfl⟩) (by assumption) ?_
        simp only [Act.put, List.setIfInBounds_toArray, List.set_cons_zero, List.set_cons_succ]
        refine wpAnyN_tk (i := 16) (v := undef) rfl (by kernel_rfl) (fun _ _ _ h => h) (Or.inr ⟨by rfl, rfl⟩) (by assumption) ?_
        simp only [Act.put, List.setIfInBounds_toArray, List.set_cons_zero, List.set_cons_succ]
        refine wpAnyN_tk (i := 17) (v := undef) rfl (by kernel_rfl) (fun _ _ _ h => h) (Or.inr ⟨by rfl, rfl⟩) (by assumption) ?_
        simp only [Act.put, List.setIfInBounds_toArray, List.set_cons_zero, List.set_cons_succ]
        refine wpAnyN_tk (i := 18) (v := undef) rfl (by kernel_rfl) (fun _ _ _ h => h) (Or.inr ⟨by rfl, rfl⟩) (by assumption) ?_
        simp only [Act.put, List.setIfInBounds_toArray, List.set_cons_zero, List.set_cons_succ]
        refine wpAnyN_tk (i := 19) (v := undef) rfl (by kernel_rfl) (fun _ _ _ h => h) (Or.inr ⟨by rfl, rfl⟩) (by assumption) ?_
        simp only [Act.put, List.setIfInBounds_toArray, List.set_cons_zero, List.set_cons_succ]
        refine wpAnyN_tk (i := 20) (v := ?_) rfl (by kernel_rfl) (fun _ _ _ h => h) (Or.inl ⟨by rfl, ?_⟩) (by assumption) ?_
        rotate_left
        · intro w hSw; ((try dsimp only at hSw); go_simp; (try with_reducible rfl))
        simp only [Act.put, List.setIfInBounds_toArray, List.set_cons_zero, List.set_cons_succ]
        refine wpAnyN_done (by kernel_rfl) ?_ _
        go_wp2_with fail
        (try simp only [Exit.inBlock, Exit.then]); refine bodyPost_ret (results_none rfl _ _ _) rfl ?_
        exact hfinH.out _ o2 hst2 hl2 haccH.out
      by_cases hB : x.of' < 1
      · have hacc : LogM.accept ls e last = none := by unfold LogM.accept; rw [hxH.out]; simp only; rw [if_pos (.inr (.inl hB))]
        have hAi : ¬ (x.stamp.toNat : Int) ≤ (last.toNat : Int) := by omega
        have hBi : (x.of' : Int) < 1 := by omega
        have haccH := hidden hacc
        clear hacc
        refine wp_region_need (fun w' => w'.cell? ⟨xb, 0, none⟩ = some (.int .u64 (x.stamp.toNat : Int)) ∧ w'.cell? ⟨xb, 2, none⟩ = some (.int .i64 (x.of' : Int)) ∧ w'.cell? ⟨p, 5, none⟩ = some (.int .i64 (e : Int))) (fun _ => true) (by kernel_rfl) ⟨y0, y2, d5⟩ (fun hHeld => ?_)
        refine wpAnyN_tk (i := 0) (v := ?_) rfl (by kernel_rfl) (fun _ _ _ h => h) (Or.inl ⟨by rfl, ?_⟩) (by assumption) ?_
        rotate_left
        · intro w hSw; ((try dsimp only at hSw); go_simp; (try with_reducible rfl))
        simp only [Act.put, List.setIfInBounds_toArray, List.set_cons_zero, List.set_cons_succ]
        refine wpAnyN_tk (i := 1) (v := ?_) rfl (by kernel_rfl) (fun _ _ _ h => h) (Or.inl ⟨by rfl, ?_⟩) (by assumption) ?_
        rotate_left
        · intro w hSw; ((try dsimp only at hSw); go_simp; (try with_reducible rfl))
        simp only [Act.put, List.setIfInBounds_toArray, List.set_cons_zero, List.set_cons_succ]
        refine wpAnyN_tk (i := 2) (v := ?_) rfl (by kernel_rfl) (fun _ _ _ h => h) (Or.inl ⟨by rfl, ?_⟩) (by assumption) ?_
        rotate_left
        · intro w hSw; ((try dsimp only at hSw); go_simp; (try with_reducible rfl))
        simp only [Act.put, List.setIfInBounds_toArray, List.set_cons_zero, List.set_cons_succ]
        refine wpAnyN_tk (i := 3) (v := ?_) rfl (by kernel_rfl) (fun _ _ _ h => h) (Or.inl ⟨by rfl, ?_⟩) (by assumption) ?_
        rotate_left
        · intro w hSw; ((try dsimp only at hSw); go_simp; (try with_reducible rfl))
        simp only [Act.put, List.setIfInBounds_toArray, List.set_cons_zero, List.set_cons_succ]
        refine wpAnyN_tk (i := 4) (v := ?_) rfl (by kernel_rfl) (fun _ _ _ h => h) (Or.inl ⟨by rfl, ?_⟩) (by assumption) ?_
        rotate_left
        · intro w hSw; ((try dsimp only at hSw); go_simp; (try with_reducible rfl))
        simp only [Act.put, List.setIfInBounds_toArray, List.set_cons_zero, List.set_cons_succ]
        refine wpAnyN_tk (i := 5) (v := ?_) rfl (by kernel_rfl) (fun _ _ _ h => h) (Or.inl ⟨by rfl, ?_⟩) (by assumption) ?_
        rotate_left
        · intro w hSw; ((try dsimp only at hSw); go_simp; (try with_reducible rfl))
        simp only [Act.put, List.setIfInBounds_toArray, List.set_cons_zero, List.set_cons_succ]
        refine wpAnyN_tk (i := 6) (v := ?_) rfl (by kernel_rfl) (fun _ _ _ h => h) (Or.inl ⟨by rfl, ?_⟩) (by assumption) ?_
        rotate_left
        · intro w hSw; ((try dsimp only at hSw); go_simp; (try with_reducible rfl))
        simp only [Act.put, List.setIfInBounds_toArray, List.set_cons_zero, List.set_cons_succ]
        refine wpAnyN_tk (i := 7) (v := ?_) rfl (by kernel_rfl) (fun _ _ _ h => h) (Or.inl ⟨by rfl, ?_⟩) (by assumption) ?_
        rotate_left
        · intro w hSw; ((try dsimp only at hSw); go_simp; (try with_reducible rfl))
        simp only [Act.put, List.setIfInBounds_toArray, List.set_cons_zero, List.set_cons_succ]
        refine wpAnyN_tk (i := 8) (v := ?_) rfl (by kernel_rfl) (fun _ _ _ h => h) (Or.inl ⟨by rfl, ?_⟩) (by assumption) ?_
        rotate_left
        · intro w hSw; ((try dsimp only at hSw); go_simp; (try with_reducible rfl))
        simp only [Act.put, List.setIfInBounds_toArray, List.set_cons_zero, List.set_cons_succ]
        refine wpAnyN_tk (i := 9) (v := ?_) rfl (by kernel_rfl) (fun _ _ _ h => h) (Or.inl ⟨by rfl, ?_⟩) (by assumption) ?_
        rotate_left
        · intro w hSw; ((try dsimp only at hSw); go_simp; (try with_reducible rfl))
        simp only [Act.put, List.setIfInBounds_toArray, List.set_cons_zero, List.set_cons_succ]
        refine wpAnyN_tk (i := 10) (v := undef) rfl (by kernel_rfl) (fun _ _ _ h => h) (Or.inr ⟨by rfl, rfl⟩) (by assumption) ?_
        simp only [Act.put, List.setIfInBounds_toArray, List.set_cons_zero, List.set_cons_succ]
        refine wpAnyN_tk (i := 11) (v := undef) rfl (by kernel_rfl) (fun _ _ _ h => h) (Or.inr ⟨by rfl, rfl⟩) (by assumption) ?_
        simp only [Act.put, List.setIfInBounds_toArray, List.set_cons_zero, List.set_cons_succ]
        refine wpAnyN_tk (i := 12) (v := undef) rfl (by kernel_rfl) (fun _ _ _ h => h) (Or.inr ⟨by rfl, rfl⟩) (by assumption) ?_
        simp only [Act.put, List.setIfInBounds_toArray, List.set_cons_zero, List.set_cons_succ]
        refine wpAnyN_tk (i := 13) (v := undef) rfl (by kernel_rfl) (fun _ _ _ h => h) (Or.inr ⟨by rfl, rfl⟩) (by assumption) ?_
        simp only [Act.put, List.setIfInBounds_toArray, List.set_cons_zero, List.set_cons_succ]
        refine wpAnyN_tk (i := 14) (v := undef) rfl (by kernel_rfl) (fun _ _ _ h => h) (Or.inr ⟨by rfl, rfl⟩) (by assumption) ?_
        simp only [Act.put, List.setIfInBounds_toArray, List.set_cons_zero, List.set_cons_succ]
        refine wpAnyN_tk (i := 15) (v := undef) rfl (by kernel_rfl) (fun _ _ _ h => h) (Or.inr ⟨by rfl, rfl⟩) (by assumption) ?_
        simp only [Act.put, List.setIfInBounds_toArray, List.set_cons_zero, List.set_cons_succ]
        refine wpAnyN_tk (i := 16) (v := undef) rfl (by kernel_rfl) (fun _ _ _ h => h) (Or.inr ⟨by rfl, rfl⟩) (by assumption) ?_
        simp only [Act.put, List.setIfInBounds_toArray, List.set_cons_zero, List.set_cons_succ]
        refine wpAnyN_tk (i := 17) (v := undef) rfl (by kernel_rfl) (fun _ _ _ h => h) (Or.inr ⟨by rfl, rfl⟩) (by assumption) ?_
        simp only [Act.put, List.setIfInBounds_toArray, List.set_cons_zero, List.set_cons_succ]
        refine wpAnyN_tk (i := 18) (v := undef) rfl (by kernel_rfl) (fun _ _ _ h => h) (Or.inr ⟨by rfl, rfl⟩) (by assumption) ?_
        simp only [Act.put, List.setIfInBounds_toArray, List.set_cons_zero, List.set_cons_succ]
        refine wpAnyN_tk (i := 19) (v := undef) rfl (by kernel_rfl) (fun _ _ _ h => h) (Or.inr ⟨by rfl, rfl⟩) (by assumption) ?_
        simp only [Act.put, List.setIfInBounds_toArray, List.set_cons_zero, List.set_cons_succ]
        refine wpAnyN_tk (i := 20) (v := ?_) rfl (by kernel_rfl) (fun _ _ _ h => h) (Or.inl ⟨by rfl, ?_⟩) (by assumption) ?_
        rotate_left
        · intro w hSw; ((try dsimp only at hSw); go_simp; (try with_reducible rfl))
        simp only [Act.put, List.setIfInBounds_toArray, List.set_cons_zero, List.set_cons_succ]
        refine wpAnyN_done (by kernel_rfl) ?_ _
        go_wp2_with fail
        (try simp only [Exit.inBlock, Exit.then]); refine bodyPost_ret (results_none rfl _ _ _) rfl ?_
        exact hfinH.out _ o2 hst2 hl2 haccH.out
      by_cases hC : N - e < x.of'
      · have hacc : LogM.accept ls e last = none := by unfold LogM.accept; rw [hxH.out]; simp only; rw [if_pos (.inr (.inr (by rw [hNH.out]; exact hC)))]
        have hAi : ¬ (x.stamp.toNat : Int) ≤ (last.toNat : Int) := by omega
        have hBi : ¬ (x.of' : Int) < 1 := by omega
        have hCi : ((N - e : Nat) : Int) < (x.of' : Int) := by omega
        have haccH := hidden hacc
        clear hacc
        refine wp_region_need (fun w' => w'.cell? ⟨xb, 0, none⟩ = some (.int .u64 (x.stamp.toNat : Int)) ∧ w'.cell? ⟨xb, 2, none⟩ = some (.int .i64 (x.of' : Int)) ∧ w'.cell? ⟨p, 5, none⟩ = some (.int .i64 (e : Int))) (fun _ => true) (by kernel_rfl) ⟨y0, y2, d5⟩ (fun hHeld => ?_)
        refine wpAnyN_tk (i := 0) (v := ?_) rfl (by kernel_rfl) (fun _ _ _ h => h) (Or.inl ⟨by rfl, ?_⟩) (by assumption) ?_
        rotate_left
        · intro w hSw; ((try dsimp only at hSw); go_simp; (try with_reducible rfl))
        simp only [Act.put, List.setIfInBounds_toArray, List.set_cons_zero, List.set_cons_succ]
        refine wpAnyN_tk (i := 1) (v := ?_) rfl (by kernel_rfl) (fun _ _ _ h => h) (Or.inl ⟨by rfl, ?_⟩) (by assumption) ?_
        rotate_left
        · intro w hSw; ((try dsimp only at hSw); go_simp; (try with_reducible rfl))
        simp only [Act.put, List.setIfInBounds_toArray, List.set_cons_zero, List.set_cons_succ]
        refine wpAnyN_tk (i := 2) (v := ?_) rfl (by kernel_rfl) (fun _ _ _ h => h) (Or.inl ⟨by rfl, ?_⟩) (by assumption) ?_
        rotate_left
        · intro w hSw; ((try dsimp only at hSw); go_simp; (try with_reducible rfl))
        simp only [Act.put, List.setIfInBounds_toArray, List.set_cons_zero, List.set_cons_succ]
        refine wpAnyN_tk (i := 3) (v := ?_) rfl (by kernel_rfl) (fun _ _ _ h => h) (Or.inl ⟨by rfl, ?_⟩) (by assumption) ?_
        rotate_left
        · intro w hSw; ((try dsimp only at hSw); go_simp; (try with_reducible rfl))
        simp only [Act.put, List.setIfInBounds_toArray, List.set_cons_zero, List.set_cons_succ]
        refine wpAnyN_tk (i := 4) (v := ?_) rfl (by kernel_rfl) (fun _ _ _ h => h) (Or.inl ⟨by rfl, ?_⟩) (by assumption) ?_
        rotate_left
        · intro w hSw; ((try dsimp only at hSw); go_simp; (try with_reducible rfl))
        simp only [Act.put, List.setIfInBounds_toArray, List.set_cons_zero, List.set_cons_succ]
        refine wpAnyN_tk (i := 5) (v := ?_) rfl (by kernel_rfl) (fun _ _ _ h => h) (Or.inl ⟨by rfl, ?_⟩) (by assumption) ?_
        rotate_left
        · intro w hSw; ((try dsimp only at hSw); go_simp; (try with_reducible rfl))
        simp only [Act.put, List.setIfInBounds_toArray, List.set_cons_zero, List.set_cons_succ]
        refine wpAnyN_tk (i := 6) (v := ?_) rfl (by kernel_rfl) (fun _ _ _ h => h) (Or.inl ⟨by rfl, ?_⟩) (by assumption) ?_
        rotate_left
        · intro w hSw; ((try dsimp only at hSw); go_simp; (try with_reducible rfl))
        simp only [Act.put, List.setIfInBounds_toArray, List.set_cons_zero, List.set_cons_succ]
        refine wpAnyN_tk (i := 7) (v := ?_) rfl (by kernel_rfl) (fun _ _ _ h => h) (Or.inl ⟨by rfl, ?_⟩) (by assumption) ?_
        rotate_left
        · intro w hSw; ((try dsimp only at hSw); go_simp; (try with_reducible rfl))
        simp only [Act.put, List.setIfInBounds_toArray, List.set_cons_zero, List.set_cons_succ]
        refine wpAnyN_tk (i := 8) (v := ?_) rfl (by kernel_rfl) (fun _ _ _ h => h) (Or.inl ⟨by rfl, ?_⟩) (by assumption) ?_
        rotate_left
        · intro w hSw; ((try dsimp only at hSw); go_simp; (try with_reducible rfl))
        simp only [Act.put, List.setIfInBounds_toArray, List.set_cons_zero, List.set_cons_succ]
        refine wpAnyN_tk (i := 9) (v := ?_) rfl (by kernel_rfl) (fun _ _ _ h => h) (Or.inl ⟨by rfl, ?_⟩) (by assumption) ?_
        rotate_left
        · intro w hSw; ((try dsimp only at hSw); go_simp; (try with_reducible rfl))
        simp only [Act.put, List.setIfInBounds_toArray, List.set_cons_zero, List.set_cons_succ]
        refine wpAnyN_tk (i := 10) (v := ?_) rfl (by kernel_rfl) (fun _ _ _ h => h) (Or.inl ⟨by rfl, ?_⟩) (by assumption) ?_
        rotate_left
        · intro w hSw; ((try dsimp only at hSw); go_simp; (try with_reducible rfl))
        simp only [Act.put, List.setIfInBounds_toArray, List.set_cons_zero, List.set_cons_succ]
        refine wpAnyN_tk (i := 11) (v := ?_) rfl (by kernel_rfl) (fun _ _ _ h => h) (Or.inl ⟨by rfl, ?_⟩) (by assumption) ?_
        rotate_left
        · intro w hSw; ((try dsimp only at hSw); go_simp; (try with_reducible rfl))
        simp only [Act.put, List.setIfInBounds_toArray, List.set_cons_zero, List.set_cons_succ]
        refine wpAnyN_tk (i := 12) (v := ?_) rfl (by kernel_rfl) (fun _ _ _ h => h) (Or.inl ⟨by rfl, ?_⟩) (by assumption) ?_
        rotate_left
        · intro w hSw; ((try dsimp only at hSw); go_simp; (try with_reducible rfl))
        simp only [Act.put, List.setIfInBounds_toArray, List.set_cons_zero, List.set_cons_succ]
        refine wpAnyN_tk (i := 13) (v := ?_) rfl (by kernel_rfl) (fun _ _ _ h => h) (Or.inl ⟨by rfl, ?_⟩) (by assumption) ?_
        rotate_left
        · intro w hSw; ((try dsimp only at hSw); go_simp; (try with_reducible rfl))
        simp only [Act.put, List.setIfInBounds_toArray, List.set_cons_zero, List.set_cons_succ]
        refine wpAnyN_tk (i := 14) (v := ?_) rfl (by kernel_rfl) (fun _ _ _ h => h) (Or.inl ⟨by rfl, ?_⟩) (by assumption) ?_
        rotate_left
        · intro w hSw; ((try dsimp only at hSw); go_simp; (try with_reducible rfl))
        simp only [Act.put, List.setIfInBounds_toArray, List.set_cons_zero, List.set_cons_succ]
        refine wpAnyN_tk (i := 15) (v := ?_) rfl (by kernel_rfl) (fun _ _ _ h => h) (Or.inl ⟨by rfl, ?_⟩) (by assumption) ?_
        rotate_left
        · intro w hSw; ((try dsimp only at hSw); go_simp; (try with_reducible rfl))
        simp only [Act.put, List.setIfInBounds_toArray, List.set_cons_zero, List.set_cons_succ]
        refine wpAnyN_tk (i := 16) (v := ?_) rfl (by kernel_rfl) (fun _ _ _ h => h) (Or.inl ⟨by rfl, ?_⟩) (by assumption) ?_
        rotate_left
        · intro w hSw; ((try dsimp only at hSw); go_simp; (try with_reducible rfl))
        simp only [Act.put, List.setIfInBounds_toArray, List.set_cons_zero, List.set_cons_succ]
        refine wpAnyN_tk (i := 17) (v := ?_) rfl (by kernel_rfl) (fun _ _ _ h => h) (Or.inl ⟨by rfl, ?_⟩) (by assumption) ?_
        rotate_left
        · intro w hSw; ((try dsimp only at hSw); go_simp; (try with_reducible rfl))
        simp only [Act.put, List.setIfInBounds_toArray, List.set_cons_zero, List.set_cons_succ]
        refine wpAnyN_tk (i := 18) (v := ?_) rfl (by kernel_rfl) (fun _ _ _ h => h) (Or.inl ⟨by rfl, ?_⟩) (by assumption) ?_
        rotate_left
        · intro w hSw; ((try dsimp only at hSw); go_simp; (try with_reducible rfl))
        simp only [Act.put, List.setIfInBounds_toArray, List.set_cons_zero, List.set_cons_succ]
        refine wpAnyN_tk (i := 19) (v := ?_) rfl (by kernel_rfl) (fun _ _ _ h => h) (Or.inl ⟨by rfl, ?_⟩) (by assumption) ?_
        rotate_left
        · intro w hSw; ((try dsimp only at hSw); go_simp; (try with_reducible rfl))
        simp only [Act.put, List.setIfInBounds_toArray, List.set_cons_zero, List.set_cons_succ]
        refine wpAnyN_tk (i := 20) (v := ?_) rfl (by kernel_rfl) (fun _ _ _ h => h) (Or.inl ⟨by rfl, ?_⟩) (by assumption) ?_
        rotate_left
        · intro w hSw; ((try dsimp only at hSw); go_simp; (try with_reducible rfl))
        simp only [Act.put, List.setIfInBounds_toArray, List.set_cons_zero, List.set_cons_succ]
        rw [wrap_i64 (n := ((N - e : Nat) : Int)) (by omega) (by omega)]
        rw [show decide (((N - e : Nat) : Int) < (x.of' : Int)) = true from by simpa using hCi]
        refine wpAnyN_done (by kernel_rfl) ?_ _
        go_wp2_with fail
        (try simp only [Exit.inBlock, Exit.then]); refine bodyPost_ret (results_none rfl _ _ _) rfl ?_
        exact hfinH.out _ o2 hst2 hl2 haccH.out
      have hAi : ¬ (x.stamp.toNat : Int) ≤ (last.toNat : Int) := by omega
      have hBi : ¬ (x.of' : Int) < 1 := by omega
      have hCi : ¬ ((N - e : Nat) : Int) < (x.of' : Int) := by omega
      refine wp_region_need (fun w' => w'.cell? ⟨xb, 0, none⟩ = some (.int .u64 (x.stamp.toNat : Int)) ∧ w'.cell? ⟨xb, 2, none⟩ = some (.int .i64 (x.of' : Int)) ∧ w'.cell? ⟨p, 5, none⟩ = some (.int .i64 (e : Int))) (fun _ => true) (by kernel_rfl) ⟨y0, y2, d5⟩ (fun hHeld => ?_)
      refine wpAnyN_tk (i := 0) (v := ?_) rfl (by kernel_rfl) (fun _ _ _ h => h) (Or.inl ⟨by rfl, ?_⟩) (by assumption) ?_
      rotate_left
      · intro w hSw; ((try dsimp only at hSw); go_simp; (try with_reducible rfl))
      simp only [Act.put, List.setIfInBounds_toArray, List.set_cons_zero, List.set_cons_succ]
      refine wpAnyN_tk (i := 1) (v := ?_) rfl (by kernel_rfl) (fun _ _ _ h => h) (Or.inl ⟨by rfl, ?_⟩) (by assumption) ?_
      rotate_left
      · intro w hSw; ((try dsimp only at hSw); go_simp; (try with_reducible rfl))
      simp only [Act.put, List.setIfInBounds_toArray, List.set_cons_zero, List.set_cons_succ]
      refine wpAnyN_tk (i := 2) (v := ?_) rfl (by kernel_rfl) (fun _ _ _ h => h) (Or.inl ⟨by rfl, ?_⟩) (by assumption) ?_
      rotate_left
      · intro w hSw; ((try dsimp only at hSw); go_simp; (try with_reducible rfl))
      simp only [Act.put, List.setIfInBounds_toArray, List.set_cons_zero, List.set_cons_succ]
      refine wpAnyN_tk (i := 3) (v := ?_) rfl (by kernel_rfl) (fun _ _ _ h => h) (Or.inl ⟨by rfl, ?_⟩) (by assumption) ?_
      rotate_left
      · intro w hSw; ((try dsimp only at hSw); go_simp; (try with_reducible rfl))
      simp only [Act.put, List.setIfInBounds_toArray, List.set_cons_zero, List.set_cons_succ]
      refine wpAnyN_tk (i := 4) (v := ?_) rfl (by kernel_rfl) (fun _ _ _ h => h) (Or.inl ⟨by rfl, ?_⟩) (by assumption) ?_
      rotate_left
      · intro w hSw; ((try dsimp only at hSw); go_simp; (try with_reducible rfl))
      simp only [Act.put, List.setIfInBounds_toArray, List.set_cons_zero, List.set_cons_succ]
      refine wpAnyN_tk (i := 5) (v := ?_) rfl (by kernel_rfl) (fun _ _ _ h => h) (Or.inl ⟨by rfl, ?_⟩) (by assumption) ?_
      rotate_left
      · intro w hSw; ((try dsimp only at hSw); go_simp; (try with_reducible rfl))
      simp only [Act.put, List.setIfInBounds_toArray, List.set_cons_zero, List.set_cons_succ]
      refine wpAnyN_tk (i := 6) (v := ?_) rfl (by kernel_rfl) (fun _ _ _ h => h) (Or.inl ⟨by rfl, ?_⟩) (by assumption) ?_
      rotate_left
      · intro w hSw; ((try dsimp only at hSw); go_simp; (try with_reducible rfl))
      simp only [Act.put, List.setIfInBounds_toArray, List.set_cons_zero, List.set_cons_succ]
      refine wpAnyN_tk (i := 7) (v := ?_) rfl (by kernel_rfl) (fun _ _ _ h => h) (Or.inl ⟨by rfl, ?_⟩) (by assumption) ?_
      rotate_left
      · intro w hSw; ((try dsimp only at hSw); go_simp; (try with_reducible rfl))
      simp only [Act.put, List.setIfInBounds_toArray, List.set_cons_zero, List.set_cons_succ]
      refine wpAnyN_tk (i := 8) (v := ?_) rfl (by kernel_rfl) (fun _ _ _ h => h) (Or.inl ⟨by rfl, ?_⟩) (by assumption) ?_
      rotate_left
      · intro w hSw; ((try dsimp only at hSw); go_simp; (try with_reducible rfl))
      simp only [Act.put, List.setIfInBounds_toArray, List.set_cons_zero, List.set_cons_succ]
      refine wpAnyN_tk (i := 9) (v := ?_) rfl (by kernel_rfl) (fun _ _ _ h => h) (Or.inl ⟨by rfl, ?_⟩) (by assumption) ?_
      rotate_left
      · intro w hSw; ((try dsimp only at hSw); go_simp; (try with_reducible rfl))
      simp only [Act.put, List.setIfInBounds_toArray, List.set_cons_zero, List.set_cons_succ]
      refine wpAnyN_tk (i := 10) (v := ?_) rfl (by kernel_rfl) (fun _ _ _ h => h) (Or.inl ⟨by rfl, ?_⟩) (by assumption) ?_
      rotate_left
      · intro w hSw; ((try dsimp only at hSw); go_simp; (try with_reducible rfl))
      simp only [Act.put, List.setIfInBounds_toArray, List.set_cons_zero, List.set_cons_succ]
      refine wpAnyN_tk (i := 11) (v := ?_) rfl (by kernel_rfl) (fun _ _ _ h => h) (Or.inl ⟨by rfl, ?_⟩) (by assumption) ?_
      rotate_left
      · intro w hSw; ((try dsimp only at hSw); go_simp; (try with_reducible rfl))
      simp only [Act.put, List.setIfInBounds_toArray, List.set_cons_zero, List.set_cons_succ]
      refine wpAnyN_tk (i := 12) (v := ?_) rfl (by kernel_rfl) (fun _ _ _ h => h) (Or.inl ⟨by rfl, ?_⟩) (by assumption) ?_
      rotate_left
      · intro w hSw; ((try dsimp only at hSw); go_simp; (try with_reducible rfl))
      simp only [Act.put, List.setIfInBounds_toArray, List.set_cons_zero, List.set_cons_succ]
      refine wpAnyN_tk (i := 13) (v := ?_) rfl (by kernel_rfl) (fun _ _ _ h => h) (Or.inl ⟨by rfl, ?_⟩) (by assumption) ?_
      rotate_left
      · intro w hSw; ((try dsimp only at hSw); go_simp; (try with_reducible rfl))
      simp only [Act.put, List.setIfInBounds_toArray, List.set_cons_zero, List.set_cons_succ]
      refine wpAnyN_tk (i := 14) (v := ?_) rfl (by kernel_rfl) (fun _ _ _ h => h) (Or.inl ⟨by rfl, ?_⟩) (by assumption) ?_
      rotate_left
      · intro w hSw; ((try dsimp only at hSw); go_simp; (try with_reducible rfl))
      simp only [Act.put, List.setIfInBounds_toArray, List.set_cons_zero, List.set_cons_succ]
      refine wpAnyN_tk (i := 15) (v := ?_) rfl (by kernel_rfl) (fun _ _ _ h => h) (Or.inl ⟨by rfl, ?_⟩) (by assumption) ?_
      rotate_left
      · intro w hSw; ((try dsimp only at hSw); go_simp; (try with_reducible rfl))
      simp only [Act.put, List.setIfInBounds_toArray, List.set_cons_zero, List.set_cons_succ]
      refine wpAnyN_tk (i := 16) (v := ?_) rfl (by kernel_rfl) (fun _ _ _ h => h) (Or.inl ⟨by rfl, ?_⟩) (by assumption) ?_
      rotate_left
      · intro w hSw; ((try dsimp only at hSw); go_simp; (try with_reducible rfl))
      simp only [Act.put, List.setIfInBounds_toArray, List.set_cons_zero, List.set_cons_succ]
      refine wpAnyN_tk (i := 17) (v := ?_) rfl (by kernel_rfl) (fun _ _ _ h => h) (Or.inl ⟨by rfl, ?_⟩) (by assumption) ?_
      rotate_left
      · intro w hSw; ((try dsimp only at hSw); go_simp; (try with_reducible rfl))
      simp only [Act.put, List.setIfInBounds_toArray, List.set_cons_zero, List.set_cons_succ]
      refine wpAnyN_tk (i := 18) (v := ?_) rfl (by kernel_rfl) (fun _ _ _ h => h) (Or.inl ⟨by rfl, ?_⟩) (by assumption) ?_
      rotate_left
      · intro w hSw; ((try dsimp only at hSw); go_simp; (try with_reducible rfl))
      simp only [Act.put, List.setIfInBounds_toArray, List.set_cons_zero, List.set_cons_succ]
      refine wpAnyN_tk (i := 19) (v := ?_) rfl (by kernel_rfl) (fun _ _ _ h => h) (Or.inl ⟨by rfl, ?_⟩) (by assumption) ?_
      rotate_left
      · intro w hSw; ((try dsimp only at hSw); go_simp; (try with_reducible rfl))
      simp only [Act.put, List.setIfInBounds_toArray, List.set_cons_zero, List.set_cons_succ]
      refine wpAnyN_tk (i := 20) (v := ?_) rfl (by kernel_rfl) (fun _ _ _ h => h) (Or.inl ⟨by rfl, ?_⟩) (by assumption) ?_
      rotate_left
      · intro w hSw; ((try dsimp only at hSw); go_simp; (try with_reducible rfl))
      simp only [Act.put, List.setIfInBounds_toArray, List.set_cons_zero, List.set_cons_succ]
      rw [wrap_i64 (n := ((N - e : Nat) : Int)) (by omega) (by omega)]
      rw [show decide (((N - e : Nat) : Int) < (x.of' : Int)) = false from by simpa using hCi]
      refine wpAnyN_done (by kernel_rfl) ?_ _
      clear hAi hBi hCi hHeld
      go_wp2_with fail
      have hi1 : (e : Int) ≤ (e : Int) + (x.of' : Int) := by omega
      have hi2 : (e : Int) + (x.of' : Int) ≤ (cap : Int) := by omega
      have hi3 : (0 : Int) ≤ (e : Int) + (x.of' : Int) := by omega
      have hne : ¬ (cap = e) := by omega
      refine wp_region_need (fun w' => w'.cell? ⟨xb, 2, none⟩ = some (.int .i64 (x.of' : Int)) ∧ w'.cell? ⟨p, 5, none⟩ = some (.int .i64 (e : Int))) (fun _ => true) (by kernel_rfl) ⟨y2, d5⟩ (fun hHeld => ?_)
      refine wpAnyN_tk (i := 0) (v := ?_) rfl (by kernel_rfl) (fun _ _ _ h => h) (Or.inl ⟨by rfl, ?_⟩) (by assumption) ?_
      rotate_left
      · intro w hSw; ((try dsimp only at hSw); go_simp; (try with_reducible rfl))
      simp only [Act.put, List.setIfInBounds_toArray, List.set_cons_zero, List.set_cons_succ]
      refine wpAnyN_tk (i := 1) (v := ?_) rfl (by kernel_rfl) (fun _ _ _ h => h) (Or.inl ⟨by rfl, ?_⟩) (by assumption) ?_
      rotate_left
      · intro w hSw; ((try dsimp only at hSw); go_simp; (try with_reducible rfl))
      simp only [Act.put, List.setIfInBounds_toArray, List.set_cons_zero, List.set_cons_succ]
      refine wpAnyN_tk (i := 2) (v := ?_) rfl (by kernel_rfl) (fun _ _ _ h => h) (Or.inl ⟨by rfl, ?_⟩) (by assumption) ?_
      rotate_left
      · intro w hSw; ((try dsimp only at hSw); go_simp; (try with_reducible rfl))
      simp only [Act.put, List.setIfInBounds_toArray, List.set_cons_zero, List.set_cons_succ]
      refine wpAnyN_tk (i := 3) (v := ?_) rfl (by kernel_rfl) (fun _ _ _ h => h) (Or.inl ⟨by rfl, ?_⟩) (by assumption) ?_
      rotate_left
      · intro w hSw; ((try dsimp only at hSw); go_simp; (try with_reducible rfl))
      simp only [Act.put, List.setIfInBounds_toArray, List.set_cons_zero, List.set_cons_succ]
      refine wpAnyN_tk (i := 4) (v := ?_) rfl (by kernel_rfl) (fun _ _ _ h => h) (Or.inl ⟨by rfl, ?_⟩) (by assumption) ?_
      rotate_left
      · intro w hSw; ((try dsimp only at hSw); go_simp; (try with_reducible rfl))
      simp only [Act.put, List.setIfInBounds_toArray, List.set_cons_zero, List.set_cons_succ]
      refine wpAnyN_tk (i := 5) (v := ?_) rfl (by kernel_rfl) (fun _ _ _ h => h) (Or.inl ⟨by rfl, ?_⟩) (by assumption) ?_
      rotate_left
      · intro w hSw; ((try dsimp only at hSw); go_simp; (try with_reducible rfl))
      simp only [Act.put, List.setIfInBounds_toArray, List.set_cons_zero, List.set_cons_succ]
      refine wpAnyN_tk (i := 6) (v := ?_) rfl (by kernel_rfl) (fun _ _ _ h => h) (Or.inl ⟨by rfl, ?_⟩) (by assumption) ?_
      rotate_left
      · intro w hSw; ((try dsimp only at hSw); go_simp; (try with_reducible rfl))
      simp only [Act.put, List.setIfInBounds_toArray, List.set_cons_zero, List.set_cons_succ]
      refine wpAnyN_tk (i := 7) (v := ?_) rfl (by kernel_rfl) (fun _ _ _ h => h) (Or.inl ⟨by rfl, ?_⟩) (by assumption) ?_
      rotate_left
      · intro w hSw; ((try dsimp only at hSw); go_simp; (try with_reducible rfl))
      simp only [Act.put, List.setIfInBounds_toArray, List.set_cons_zero, List.set_cons_succ]
      refine wpAnyN_tk (i := 8) (v := ?_) rfl (by kernel_rfl) (fun _ _ _ h => h) (Or.inl ⟨by rfl, ?_⟩) (by assumption) ?_
      rotate_left
      · intro w hSw; ((try dsimp only at hSw); go_simp; (try with_reducible rfl))
      simp only [Act.put, List.setIfInBounds_toArray, List.set_cons_zero, List.set_cons_succ]
      refine wpAnyN_tk (i := 9) (v := ?_) rfl (by kernel_rfl) (fun _ _ _ h => h) (Or.inl ⟨by rfl, ?_⟩) (by assumption) ?_
      rotate_left
      · intro w hSw; ((try dsimp only at hSw); go_simp; (try with_reducible rfl))
      simp only [Act.put, List.setIfInBounds_toArray, List.set_cons_zero, List.set_cons_succ]
      refine wpAnyN_tk (i := 10) (v := ?_) rfl (by kernel_rfl) (fun _ _ _ h => h) (Or.inl ⟨by rfl, ?_⟩) (by assumption) ?_
      rotate_left
      · intro w hSw; ((try dsimp only at hSw); go_simp; (try with_reducible rfl))
      simp only [Act.put, List.setIfInBounds_toArray, List.set_cons_zero, List.set_cons_succ]
      refine wpAnyN_tk (i := 11) (v := ?_) rfl (by kernel_rfl) (fun _ _ _ h => h) (Or.inl ⟨by rfl, ?_⟩) (by assumption) ?_
      rotate_left
      · intro w hSw; ((try dsimp only at hSw); go_simp; (try with_reducible rfl))
      simp only [Act.put, List.setIfInBounds_toArray, List.set_cons_zero, List.set_cons_succ]
      rw [wrap_i64 (n := (e : Int) + (x.of' : Int)) (by omega) (by omega)]
      refine wpAnyN_tk (i := 12) (v := ?_) rfl (by kernel_rfl) (fun _ _ _ h => h) (Or.inl ⟨by rfl, ?_⟩) (by assumption) ?_
      rotate_left
      · intro w hSw; ((try dsimp only at hSw); go_simp; (try with_reducible rfl))
      simp only [Act.put, List.setIfInBounds_toArray, List.set_cons_zero, List.set_cons_succ]
      refine wpAnyN_tk (i := 13) (v := ?_) rfl (by kernel_rfl) (fun _ _ _ h => h) (Or.inl ⟨by rfl, ?_⟩) (by assumption) ?_
      rotate_left
      · intro w hSw; ((try dsimp only at hSw); go_simp; (try with_reducible rfl))
      simp only [Act.put, List.setIfInBounds_toArray, List.set_cons_zero, List.set_cons_succ]
      refine wpAnyN_tk (i := 14) (v := ?_) rfl (by kernel_rfl) (fun _ _ _ h => h) (Or.inl ⟨by rfl, ?_⟩) (by assumption) ?_
      rotate_left
      · intro w hSw; ((try dsimp only at hSw); go_simp; (try with_reducible rfl))
      simp only [Act.put, List.setIfInBounds_toArray, List.set_cons_zero, List.set_cons_succ]
      refine wpAnyN_done (by kernel_rfl) ?_ _
      clear hHeld
      have hdr2 : Step Nobody W1.drew o2 W1.drew.drew o2 := (Step.refl _ _ _).drew
      have hl3 := hl2.step hdr2 (fun h => h) (fun h => h)
      have hst3 := hst2.trans (hdr2.only L)
      have hxb3 : W1.drew.drew.heap[xb]? = some (.cells (leafV x bv).toArray 139 (0, 0)) := hxb
      have hlv3 := (hlv2.step hdr (fun h => h)).step hdr2 (fun h => h)
      have hbv3 := (hbv1.step hdr (fun h => h)).step hdr2 (fun h => h)
      generalize W1.drew.drew = W2 at *
      clear hdr2 hdr hst2 hl2 hxb hlv2 hbv1 hl1 hst1 y0 y2 d5
      rw [show ((e : Int) + (x.of' : Int)).toNat - e = x.of' from by omega]
      obtain ⟨K, hK⟩ : ∃ K, x.of' = K := ⟨_, rfl⟩
      have hKH := hidden hK
      rw [hK] at hB hC hxo hi1 hi2 hi3 ⊢
      have hKi : (K : Int) ≤ 2000 := by omega
      have hW2s := hst3.size
      go_wp2_with fail
      go_loopw [6, 62] (fun rec i wr => ∃ k : Nat, k ≤ K ∧ i = .int .i64 k ∧ Below W2.heap.size W2 wr ∧ wr.ownsRow W2.heap.size 5 1 rec (((ls.drop e).take k).flatMap LeafM.bytes).length (bvs (((ls.drop e).take k).flatMap LeafM.bytes)) ∧ Hid (∀ j, j < k → ∃ y, ls[e + j]? = some y ∧ y.stamp = x.stamp ∧ y.at' = j ∧ y.of' = K))
        (fun _ i _ => K - (intOf i).toNat)
      case atStart => exact ⟨0, Nat.zero_le _, rfl, Below.refl _ _, by simpa using World.ownsRow_nil _ _ _ _, hidden (fun j hj => by omega)⟩
      case round =>
        obtain ⟨k, hk, rfl, hbel, hown, hall⟩ := hrel
        have hsN : Step Nobody W2 o2 _ (ext1 W2 o2) := ⟨hbel.os, hbel.tape, hbel.output, hbel.size, fun k hk => if_pos hk, fun k hk _ => hbel.block k hk⟩
        have hxbl := lt_of_block hxb3
        have hxb4 := (hbel.block xb hxbl).trans hxb3
        have y0 := cell_of_block hxb4 0
        have y2 := cell_of_block hxb4 2
        simp only [leafV, List.getElem?_cons_zero, List.getElem?_cons_succ] at y0 y2
        rw [hKH.out] at y2
        have hl4 := hl3.step hsN (fun h => h) (fun h => h)
        have hst4 := hst3.trans (hsN.only L)
        have hsz4 := hbel.size
        by_cases hkK : k < K
        · obtain ⟨y, hy⟩ : ∃ y, ls[e + k]? = some y := ⟨_, List.getElem?_eq_getElem (by rw [hNH.out]; omega)⟩
          have hlv4 := hlv3.step hsN (fun h => h)
          obtain ⟨b', off', cap', hv', -, -, hat'⟩ := hlv4.at
          simp only [Value.slice.injEq, Option.some.injEq, Addr.mk.injEq] at hv'
          obtain ⟨⟨rfl, rfl, -⟩, -, rfl⟩ := hv'
          obtain ⟨bw, hbw, hr⟩ := hat' (e + k) y hy
          rw [Nat.add_mul, ← Nat.add_assoc] at hr
          obtain ⟨hyl, hyo, hya⟩ := hbH.out y (List.mem_of_getElem? hy)
          have hld := hidden (load139 hr)
          have hal := hidden (run_alloc_zero (P := Try.prog) wr 139 _ zc139)
          have hsw := setCells_alloc_whole wr #[.int .u64 0, .int .i64 0, .int .i64 0, .slice none 0 0] 139 (leafV y bw) rfl
          obtain ⟨hso, -⟩ := run_store_agg (P := Try.prog) (ty := 139) (vs := leafV y bw) (heap_alloc_new wr (.cells [.int .u64 0, .int .i64 0, .int .i64 0, .slice none 0 0].toArray 139)) rfl (by kernel_rfl) (one_leafV hbw)
          rw [hsw] at hso
          have hsoH := hidden hso
          have hba : Below W2.heap.size W2 (wr.alloc (.cells (leafV y bw).toArray 139)) := hbel.alloc hsz4 _
          have hbaN := (Step.refl Nobody wr (ext1 W2 o2)).alloc (.cells (leafV y bw).toArray 139) (0, 0)
          have hyb : (wr.alloc (.cells (leafV y bw).toArray 139)).heap[wr.heap.size]? = some (.cells (leafV y bw).toArray 139 (0, 0)) := heap_alloc_new wr _
          have z0 : (wr.alloc (.cells (leafV y bw).toArray 139)).cell? ⟨wr.heap.size, 0, none⟩ = some (.int .u64 (y.stamp.toNat : Int)) := cell_of_block hyb 0
          have z1 : (wr.alloc (.cells (leafV y bw).toArray 139)).cell? ⟨wr.heap.size, 1, none⟩ = some (.int .i64 (y.at' : Int)) := cell_of_block hyb 1
          have z2 : (wr.alloc (.cells (leafV y bw).toArray 139)).cell? ⟨wr.heap.size, 2, none⟩ = some (.int .i64 (y.of' : Int)) := cell_of_block hyb 2
          have z3 : (wr.alloc (.cells (leafV y bw).toArray 139)).cell? ⟨wr.heap.size, 3, none⟩ = some bw := cell_of_block hyb 3
          have hxb5 := (hbaN.block xb (by omega) (fun h => h)).trans hxb4
          have v0 : (wr.alloc (.cells (leafV y bw).toArray 139)).cell? ⟨xb, 0, none⟩ = some (.int .u64 (x.stamp.toNat : Int)) := cell_of_block hxb5 0
          have v2 : (wr.alloc (.cells (leafV y bw).toArray 139)).cell? ⟨xb, 2, none⟩ = some (.int .i64 (x.of' : Int)) := cell_of_block hxb5 2
          rw [hKH.out] at v2
          have hl5 := hl4.step hbaN (fun h => h) (fun h => h)
          have hst5 := hst4.trans (hbaN.only L)
          have hownA := hown.alloc (.cells (leafV y bw).toArray 139)
          have hbw5 := hbw.step hbaN (fun h => h)
          have hki : (k : Int) < (K : Int) := by omega
          -- a leaf that does not fit: nothing is accepted
          have hbad : ¬ (y.stamp = x.stamp ∧ y.at' = k ∧ y.of' = K) → LogM.accept ls e last = none := fun hne => by
            cases hac : LogM.accept ls e last with
            | none => rfl
            | some q =>
              obtain ⟨k', X, c⟩ := q
              obtain ⟨_, _, _, h4, _⟩ := LogM.accept_some hac
              obtain ⟨x', hx', q1, _, q3⟩ := h4 0 (by have := (LogM.accept_some hac).1; omega)
              rw [Nat.add_zero, hxH.out] at hx'
              simp only [Option.some.injEq] at hx'
              subst hx'
              obtain ⟨y', hy', p1, p2, p3⟩ := h4 k (by rw [← q3, hKH.out]; exact hkK)
              rw [hy] at hy'
              simp only [Option.some.injEq] at hy'
              subst hy'
              exact absurd ⟨by rw [p1, q1], p2, by rw [p3, ← q3, hKH.out]⟩ hne
          have hbadH := hidden hbad
          have hyH := hidden hy
          have hlenp : (((ls.drop e).take k).flatMap LeafM.bytes).length ≤ 480 * 2000 := by
            have hall2 : ∀ (l : List LeafM), (∀ z ∈ l, z.bytes.length ≤ 480) → (l.flatMap LeafM.bytes).length ≤ 480 * l.length := by
              intro l
              induction l with
              | nil => intro _; simp
              | cons z r ih =>
                intro hz
                have := ih (fun q hq => hz q (by simp [hq]))
                have hz0 := hz z (by simp)
                simp only [List.flatMap_cons, List.length_append, List.length_cons]; omega
            have h1 := hall2 ((ls.drop e).take k) (fun z hz => (hbH.out z (List.mem_of_mem_drop (List.mem_of_mem_take hz))).1)
            have h2 : ((ls.drop e).take k).length ≤ k := by simp; omega
            omega
          have hdropk : (ls.drop e).take (k + 1) = (ls.drop e).take k ++ [y] := by
            rw [List.take_add_one, List.getElem?_drop, hy]; rfl
          clear hbad hy hsw hso hat' hlv4 hr hbw y0 y2 hxb4 hxb5 hyb hba
          generalize hRk : ((ls.drop e).take k).flatMap LeafM.bytes = Rk at *
          have hRkH := hidden hRk
          clear hRk
          obtain ⟨ra, rcp, rfl⟩ := own_form hown
          by_cases hm1 : y.stamp = x.stamp
          · have hb1 : ((x.stamp.toNat : Int) != (x.stamp.toNat : Int)) = false := by simp
            rw [hm1] at z0
            by_cases hm2 : y.at' = k
            · have hb2 : ((k : Int) != (k : Int)) = false := by simp
              rw [hm2] at z1
              by_cases hm3 : y.of' = K
              · have hb3 : ((K : Int) != (K : Int)) = false := by simp
                rw [hm3] at z2
                obtain ⟨v', w3, hrun, hown3, hgrow⟩ := append_any (wr.alloc (.cells (leafV y bw).toArray 139)) (base := W2.heap.size) (by simp; omega) hownA hbw5 (by omega)
                have hb3' : Below W2.heap.size W2 w3 := (hbel.alloc hsz4 _).grown hgrow (by simp; omega) (fun k hk => (hownA.lt k hk).1)
                have hRk1 : ((ls.drop e).take (k + 1)).flatMap LeafM.bytes = Rk ++ y.bytes := by rw [hdropk, List.flatMap_append, hRkH.out]; simp
                have hall1 : Hid (∀ j, j < k + 1 → ∃ y, ls[e + j]? = some y ∧ y.stamp = x.stamp ∧ y.at' = j ∧ y.of' = K) := hidden fun j hj => by
                  by_cases hjk : j = k
                  · subst hjk; exact ⟨y, hyH.out, hm1, hm2, hm3⟩
                  · exact hall.out j (by omega)
                have hrel1 := hidden (show w3.ownsRow W2.heap.size 5 1 v' (((ls.drop e).take (k + 1)).flatMap LeafM.bytes).length (bvs (((ls.drop e).take (k + 1)).flatMap LeafM.bytes)) from by rw [hRk1, List.length_append]; exact hown3)
                obtain ⟨wa, wc, rfl⟩ := slc_form hbw5
                have hrunH := hidden hrun
                clear hm1 hm2 hm3 hrun hown3 hgrow hbadH hRk1 hall hown hownA hbw5 hl5 hst5 hdropk
                go_wp2_with (first
                  | ((with_reducible apply lit_load); exact hld.out; simp only [Act.put, List.setIfInBounds_toArray, List.set_cons_zero, List.set_cons_succ])
                  | ((with_reducible apply lit_alloc); exact hal.out; simp only [Act.put, List.setIfInBounds_toArray, List.set_cons_zero, List.set_cons_succ])
                  | ((with_reducible apply lit_store); exact hsoH.out; simp only [Act.put])
                  | ((with_reducible apply lit_append); exact hrunH.out; simp only [Act.put, List.setIfInBounds_toArray, List.set_cons_zero, List.set_cons_succ]))
                go_roundw
                case rel => exact ⟨k + 1, hkK, by go_num, hb3', hrel1.out, hall1⟩
                case measure => simp [intOf]; omega
              · have hb3 : ((y.of' : Int) != (K : Int)) = true := by rw [bne_iff_ne]; omega
                have hacc := hidden (hbadH.out (fun h => hm3 h.2.2))
                clear hm3
                go_wp2_with (first
                  | ((with_reducible apply lit_load); exact hld.out; simp only [Act.put, List.setIfInBounds_toArray, List.set_cons_zero, List.set_cons_succ])
                  | ((with_reducible apply lit_alloc); exact hal.out; simp only [Act.put, List.setIfInBounds_toArray, List.set_cons_zero, List.set_cons_succ])
                  | ((with_reducible apply lit_store); exact hsoH.out; simp only [Act.put]))
                (try simp only [Exit.inBlock, Exit.then]); refine bodyPost_ret (results_none rfl _ _ _) rfl ?_
                exact hfinH.out _ _ hst5 hl5 hacc.out
            · have hb2 : ((y.at' : Int) != (k : Int)) = true := by rw [bne_iff_ne]; omega
              have hacc := hidden (hbadH.out (fun h => hm2 h.2.1))
              clear hm2
              go_wp2_with (first
                | ((with_reducible apply lit_load); exact hld.out; simp only [Act.put, List.setIfInBounds_toArray, List.set_cons_zero, List.set_cons_succ])
                | ((with_reducible apply lit_alloc); exact hal.out; simp only [Act.put, List.setIfInBounds_toArray, List.set_cons_zero, List.set_cons_succ])
                | ((with_reducible apply lit_store); exact hsoH.out; simp only [Act.put]))
              (try simp only [Exit.inBlock, Exit.then]); refine bodyPost_ret (results_none rfl _ _ _) rfl ?_
              exact hfinH.out _ _ hst5 hl5 hacc.out
          · have hb1 : ((y.stamp.toNat : Int) != (x.stamp.toNat : Int)) = true := by
              rw [bne_iff_ne]; intro h; exact hm1 (BitVec.eq_of_toNat_eq (by omega))
            have hacc := hidden (hbadH.out (fun h => hm1 h.1))
            clear hm1
            go_wp2_with (first
              | ((with_reducible apply lit_load); exact hld.out; simp only [Act.put, List.setIfInBounds_toArray, List.set_cons_zero, List.set_cons_succ])
              | ((with_reducible apply lit_alloc); exact hal.out; simp only [Act.put, List.setIfInBounds_toArray, List.set_cons_zero, List.set_cons_succ])
              | ((with_reducible apply lit_store); exact hsoH.out; simp only [Act.put]))
            (try simp only [Exit.inBlock, Exit.then]); refine bodyPost_ret (results_none rfl _ _ _) rfl ?_
            exact hfinH.out _ _ hst5 hl5 hacc.out
        · obtain rfl : K = k := by omega
          obtain ⟨R, hR0⟩ : ∃ R, ((ls.drop e).take K).flatMap LeafM.bytes = R := ⟨_, rfl⟩
          have hacc : LogM.accept ls e last = some (K, x.stamp, R) := by
            rw [← hR0]
            exact LogM.accept_intro (by omega) (by rw [hNH.out]; omega) (by omega) hall.out
          have hRlen : R.length ≤ 960000 := by
            have hall2 : ∀ (l : List LeafM), (∀ z ∈ l, z.bytes.length ≤ 480) → (l.flatMap LeafM.bytes).length ≤ 480 * l.length := by
              intro l
              induction l with
              | nil => intro _; simp
              | cons z r ih =>
                intro hz
                have := ih (fun q hq => hz q (by simp [hq]))
                have hz0 := hz z (by simp)
                simp only [List.flatMap_cons, List.length_append, List.length_cons]; omega
            have h1 := hall2 ((ls.drop e).take K) (fun z hz => (hbH.out z (List.mem_of_mem_drop (List.mem_of_mem_take hz))).1)
            have h2 : ((ls.drop e).take K).length ≤ K := by simp; omega
            rw [hR0] at h1
            omega
          rw [hR0] at hown
          clear hR0
          obtain ⟨f', rfl⟩ : ∃ f', f = f' + 1 := ⟨f - 1, by omega⟩
          have hR' : Hid (LogM.readL ls N (1, x0.stamp, []) = LogM.readL ls f' (e + K, x.stamp, rs ++ [R])) := hidden (hR.out.trans (LogM.readL_some (s := (e, last, rs)) hacc f'))
          obtain ⟨ra, rcp, rfl⟩ := own_form hown
          have hRb : Bytes wr (ext1 W2 o2) (.slice ra R.length rcp) R := own_bytes hown (fun q hq => by unfold ext1; rw [if_neg (by have := (hown.lt q hq).1; omega)])
          have hRm : Mine wr (ext1 W2 o2) (.slice ra R.length rcp) := fun q off n c e hn => by
            simp only [Value.slice.injEq] at e
            have := hown.lt q (by rw [e.1]; rfl)
            exact ⟨this.2, by unfold ext1; rw [if_neg (by omega)]⟩
          have hdr4 : Step Nobody wr (ext1 W2 o2) wr.drew (ext1 W2 o2) := (Step.refl _ _ _).drew
          have hsA := hdr4.trans ((Step.refl Nobody wr.drew (ext1 W2 o2)).alloc (.cells #[.slice ra R.length rcp] 28) (0, 0))
          have hlA := hl4.step hsA (fun h => h) (fun h => h)
          have hRA := hRb.step hsA (fun h => h)
          have hRMA := hRm.step hsA
          have hnb : (wr.drew.alloc (.cells #[.slice ra R.length rcp] 28)).heap[wr.heap.size]? = some (.cells #[.slice ra R.length rcp] 28 (0, 0)) := heap_alloc_new wr.drew _
          have hwfm : LogM.wf { m with records := rs, end' := e } := hl4.wf
          have hwfN : ({ ({ m with records := rs, end' := e } : LogM) with records := rs ++ [R], end' := e + K } : LogM).wf := by
            obtain ⟨q1, q2, q3, q4, q5, q6, q7⟩ := hwfm
            simp only at q1 q2 q3 q4 q5 q6 q7
            refine ⟨q1, q2, q3, by show 1 ≤ e + K; omega, by show e + K ≤ m.n; omega, by show (rs ++ [R]).length + 1 ≤ e + K; simp only [List.length_append, List.length_cons, List.length_nil]; omega, ?_⟩
            intro r hr
            rcases List.mem_append.1 hr with hr | hr
            · exact q7 r hr
            · simp only [List.mem_singleton] at hr; subst hr; exact hRlen
          obtain ⟨rv, v', w3, o3, hc6, ⟨rva, rvc, hrv⟩, hrun, ⟨v'a, v'c, hv'⟩, hs3, hp3, hs5, hlN⟩ := hlA.append hL hnb hRA hRMA (e + K) hwfN
          subst hrv hv'
          simp only at hc6 hrun hs5 hlN
          have hplt : p < wr.heap.size := hl4.lt
          have hc6w : wr.drew.cell? ⟨p, 6, none⟩ = some (.slice rva rs.length rvc) := by
            rw [← hc6, World.cell?_alloc_lt _ _ _ hplt]
          have hheld4 := hl4.held
          obtain ⟨-, -, -, -, -, c5w, -⟩ := hheld4
          simp only at c5w
          have hxbl4 := lt_of_block hxb4
          have hxbA : (wr.drew.alloc (.cells #[.slice ra R.length rcp] 28)).heap[xb]? = some (.cells (leafV x bv).toArray 139 (0, 0)) := (hsA.block xb hxbl4 (fun h => h)).trans hxb4
          have hxbp : xb ≠ p := by
            intro h; rw [h] at hxo1
            have h1 := hl3.ofL
            rw [hxo1] at h1
            exact hL h1.symm
          have hxbo : (tagAt (ext1 W2 o2) wr.heap.size (0, 0) xb).1 = 0 := by
            rw [tagAt_other _ _ (by omega)]
            unfold ext1; rw [if_pos hxbl, hxo1]
          have hxb3w : w3.heap[xb]? = some (.cells (leafV x bv).toArray 139 (0, 0)) := (hs3.block xb (lt_of_block hxbA) (by show ¬ _ = L; rw [show wr.drew.heap.size = wr.heap.size from rfl, hxbo]; exact fun h => hL h.symm)).trans hxbA
          have k0 : wr.drew.cell? ⟨xb, 0, none⟩ = some (.int .u64 (x.stamp.toNat : Int)) := y0
          have k2 : wr.drew.cell? ⟨xb, 2, none⟩ = some (.int .i64 (K : Int)) := y2
          have a0 : (wr.drew.alloc (.cells #[.slice ra R.length rcp] 28)).cell? ⟨xb, 0, none⟩ = some (.int .u64 (x.stamp.toNat : Int)) := cell_of_block hxbA 0
          have a2 : (wr.drew.alloc (.cells #[.slice ra R.length rcp] 28)).cell? ⟨xb, 2, none⟩ = some (.int .i64 (K : Int)) := by rw [← hKH.out]; exact cell_of_block hxbA 2
          have a5 : (wr.drew.alloc (.cells #[.slice ra R.length rcp] 28)).cell? ⟨p, 5, none⟩ = some (.int .i64 (e : Int)) := by rw [World.cell?_alloc_lt _ _ _ hplt]; exact c5w
          have b0 : w3.cell? ⟨xb, 0, none⟩ = some (.int .u64 (x.stamp.toNat : Int)) := cell_of_block hxb3w 0
          have b2 : w3.cell? ⟨xb, 2, none⟩ = some (.int .i64 (K : Int)) := by rw [← hKH.out]; exact cell_of_block hxb3w 2
          have b5 : w3.cell? ⟨p, 5, none⟩ = some (.int .i64 (e : Int)) := (World.cell?_of_block (a := ⟨p, 5, none⟩) hp3).trans a5
          have b6 : w3.cell? ⟨p, 6, none⟩ = some (.slice rva rs.length rvc) := (World.cell?_of_block (a := ⟨p, 6, none⟩) hp3).trans hc6
          obtain ⟨_, _, hpA, -⟩ := hlA
          have f5 := free_of_block (hp3.trans hpA) 5
          have f6 := free_of_block (hp3.trans hpA) 6
          have s0 : (w3.setCell ⟨p, 6, none⟩ (.slice v'a (rs.length + 1) v'c)).cell? ⟨xb, 0, none⟩ = some (.int .u64 (x.stamp.toNat : Int)) := by rw [World.cell?_setCell_other _ _ _ _ (by simp)]; exact b0
          have s2 : (w3.setCell ⟨p, 6, none⟩ (.slice v'a (rs.length + 1) v'c)).cell? ⟨xb, 2, none⟩ = some (.int .i64 (K : Int)) := by rw [World.cell?_setCell_other _ _ _ _ (by simp)]; exact b2
          have s5 : (w3.setCell ⟨p, 6, none⟩ (.slice v'a (rs.length + 1) v'c)).cell? ⟨p, 5, none⟩ = some (.int .i64 (e : Int)) := by rw [World.cell?_setCell_other _ _ _ _ (by simp)]; exact b5
          have t0 : ((w3.setCell ⟨p, 6, none⟩ (.slice v'a (rs.length + 1) v'c)).setCell ⟨p, 5, none⟩ (.int .i64 ((e + K : Nat) : Int))).cell? ⟨xb, 0, none⟩ = some (.int .u64 (x.stamp.toNat : Int)) := by rw [World.cell?_setCell_other _ _ _ _ (by simp)]; exact s0
          have t2 : ((w3.setCell ⟨p, 6, none⟩ (.slice v'a (rs.length + 1) v'c)).setCell ⟨p, 5, none⟩ (.int .i64 ((e + K : Nat) : Int))).cell? ⟨xb, 2, none⟩ = some (.int .i64 (K : Int)) := by rw [World.cell?_setCell_other _ _ _ _ (by simp)]; exact s2
          have hstF := ((hst4.trans (hsA.only L)).trans hs5)
          have hmeas : endOf p N ((w3.setCell ⟨p, 6, none⟩ (.slice v'a (rs.length + 1) v'c)).setCell ⟨p, 5, none⟩ (.int .i64 ((e + K : Nat) : Int))) = N - (e + K) := by
            have : ((w3.setCell ⟨p, 6, none⟩ (.slice v'a (rs.length + 1) v'c)).setCell ⟨p, 5, none⟩ (.int .i64 ((e + K : Nat) : Int))).cell? ⟨p, 5, none⟩ = some (.int .i64 ((e + K : Nat) : Int)) := World.cell?_setCell_same' _ _ _ (by rw [s5]; rfl)
            unfold endOf; rw [this]
            show N - (((e + K : Nat) : Int)).toNat = _
            rw [Int.toNat_natCast]
          have hadd : (e : Int) + (K : Int) = ((e + K : Nat) : Int) := by omega
          have hrunH := hidden hrun
          have hA0 := hidden (And.intro a0 (And.intro a2 (And.intro a5 hc6)))
          have hB0 := hidden (And.intro b0 (And.intro b2 (And.intro b5 b6)))
          have hS0 := hidden (And.intro s0 (And.intro s2 s5))
          have hT0 := hidden (And.intro t0 t2)
          have hF := hidden (And.intro hstF (And.intro hlN hmeas))
          have haddH := hidden hadd
          clear hrun a0 a2 a5 hc6 b0 b2 b5 b6 s0 s2 s5 t0 t2 hstF hlN hmeas hxb3w hxbA hs5 hs3 hp3 hnb hRA hRMA hRm hRb hsA hdr4 hown hall hacc hadd hpA hwfN hwfm
          go_wp2_with fail
          refine wp_region_g (fun i w' => (w'.cell? ⟨xb, 0, none⟩ = some (.int .u64 (x.stamp.toNat : Int)) ∧ w'.cell? ⟨xb, 2, none⟩ = some (.int .i64 (K : Int))) ∧ (i < 23 ∨ 25 ≤ i → w'.cell? ⟨p, 5, none⟩ = some (.int .i64 (e : Int))) ∧ (i < 20 ∨ 25 ≤ i → w'.cell? ⟨p, 6, none⟩ = some (.slice rva rs.length rvc))) (by kernel_rfl) ?_
          refine wpAnyG_take (i := 0) (St := (fun _ => True)) (v := ?_) rfl (by kernel_rfl) (by kernel_rfl) (by kernel_rfl) (fun _ _ _ _ => trivial) (fun _ _ _ h => h) (Or.inl ⟨by rfl, ?_⟩) (trivial) ?_
          rotate_left
          · intro w hSw; ((try dsimp only at hSw); go_simp; (try with_reducible rfl))
          simp only [Act.put, List.setIfInBounds_toArray, List.set_cons_zero, List.set_cons_succ]
          refine wpAnyG_take (i := 1) (St := (fun _ => True)) (v := ?_) rfl (by kernel_rfl) (by kernel_rfl) (by kernel_rfl) (fun _ _ _ _ => trivial) (fun _ _ _ h => h) (Or.inl ⟨by rfl, ?_⟩) (trivial) ?_
          rotate_left
          · intro w hSw; ((try dsimp only at hSw); go_simp; (try with_reducible rfl))
          simp only [Act.put, List.setIfInBounds_toArray, List.set_cons_zero, List.set_cons_succ]
          refine wpAnyG_take (i := 2) (St := (fun _ => True)) (v := ?_) rfl (by kernel_rfl) (by kernel_rfl) (by kernel_rfl) (fun _ _ _ _ => trivial) (fun _ _ _ h => h) (Or.inl ⟨by rfl, ?_⟩) (trivial) ?_
          rotate_left
          · intro w hSw; ((try dsimp only at hSw); go_simp; (try with_reducible rfl))
          simp only [Act.put, List.setIfInBounds_toArray, List.set_cons_zero, List.set_cons_succ]
          refine wpAnyG_take (i := 3) (St := (fun _ => True)) (v := ?_) rfl (by kernel_rfl) (by kernel_rfl) (by kernel_rfl) (fun _ _ _ _ => trivial) (fun _ _ _ h => h) (Or.inl ⟨by rfl, ?_⟩) (trivial) ?_
          rotate_left
          · intro w hSw; ((try dsimp only at hSw); go_simp; (try with_reducible rfl))
          simp only [Act.put, List.setIfInBounds_toArray, List.set_cons_zero, List.set_cons_succ]
          refine wpAnyG_take (i := 4) (St := (fun _ => True)) (v := ?_) rfl (by kernel_rfl) (by kernel_rfl) (by kernel_rfl) (fun _ _ _ _ => trivial) (fun _ _ _ h => h) (Or.inl ⟨by rfl, ?_⟩) (trivial) ?_
          rotate_left
          · intro w hSw; ((try dsimp only at hSw); go_simp; (try with_reducible rfl))
          simp only [Act.put, List.setIfInBounds_toArray, List.set_cons_zero, List.set_cons_succ]
          refine wpAnyG_take (i := 5) (St := (fun w' => w'.cell? ⟨p, 6, none⟩ = some (.slice rva rs.length rvc))) (v := ?_) rfl (by kernel_rfl) (by kernel_rfl) (by kernel_rfl) (fun j w hd h => h.2.2 (dep_out (lo := 20) (hi := 25) (by kernel_rfl) j hd)) (fun _ _ _ h => h) (Or.inl ⟨by rfl, ?_⟩) (hc6w) ?_
          rotate_left
          · intro w hSw; ((try dsimp only at hSw); go_simp; (try with_reducible rfl))
          simp only [Act.put, List.setIfInBounds_toArray, List.set_cons_zero, List.set_cons_succ]
          refine wpAnyG_take (i := 6) (St := (fun _ => True)) (v := ?_) rfl (by kernel_rfl) (by kernel_rfl) (by kernel_rfl) (fun _ _ _ _ => trivial) (fun _ _ _ h => h) (Or.inl ⟨by rfl, ?_⟩) (trivial) ?_
          rotate_left
          · intro w hSw; ((try dsimp only at hSw); go_simp; (try with_reducible rfl))
          simp only [Act.put, List.setIfInBounds_toArray, List.set_cons_zero, List.set_cons_succ]
          refine wpAnyG_take (i := 9) (St := (fun _ => True)) (v := ?_) rfl (by kernel_rfl) (by kernel_rfl) (by kernel_rfl) (fun _ _ _ _ => trivial) (fun _ _ _ h => h) (Or.inl ⟨by rfl, ?_⟩) (trivial) ?_
          rotate_left
          · intro w hSw; ((try dsimp only at hSw); go_simp; (try with_reducible rfl))
          simp only [Act.put, List.setIfInBounds_toArray, List.set_cons_zero, List.set_cons_succ]
          refine wpAnyG_take (i := 10) (St := (fun _ => True)) (v := ?_) rfl (by kernel_rfl) (by kernel_rfl) (by kernel_rfl) (fun _ _ _ _ => trivial) (fun _ _ _ h => h) (Or.inl ⟨by rfl, ?_⟩) (trivial) ?_
          rotate_left
          · intro w hSw; ((try dsimp only at hSw); go_simp; (try with_reducible rfl))
          simp only [Act.put, List.setIfInBounds_toArray, List.set_cons_zero, List.set_cons_succ]
          refine wpAnyG_take (i := 11) (St := (fun _ => True)) (v := ?_) rfl (by kernel_rfl) (by kernel_rfl) (by kernel_rfl) (fun _ _ _ _ => trivial) (fun _ _ _ h => h) (Or.inl ⟨by rfl, ?_⟩) (trivial) ?_
          rotate_left
          · intro w hSw; ((try dsimp only at hSw); go_simp; (try with_reducible rfl))
          simp only [Act.put, List.setIfInBounds_toArray, List.set_cons_zero, List.set_cons_succ]
          refine wpAnyG_take (i := 12) (St := (fun w' => w'.cell? ⟨p, 5, none⟩ = some (.int .i64 (e : Int)))) (v := ?_) rfl (by kernel_rfl) (by kernel_rfl) (by kernel_rfl) (fun j w hd h => h.2.1 (dep_out (lo := 23) (hi := 25) (by kernel_rfl) j hd)) (fun _ _ _ h => h) (Or.inl ⟨by rfl, ?_⟩) (c5w) ?_
          rotate_left
          · intro w hSw; ((try dsimp only at hSw); go_simp; (try with_reducible rfl))
          simp only [Act.put, List.setIfInBounds_toArray, List.set_cons_zero, List.set_cons_succ]
          refine wpAnyG_take (i := 13) (St := (fun _ => True)) (v := ?_) rfl (by kernel_rfl) (by kernel_rfl) (by kernel_rfl) (fun _ _ _ _ => trivial) (fun _ _ _ h => h) (Or.inl ⟨by rfl, ?_⟩) (trivial) ?_
          rotate_left
          · intro w hSw; ((try dsimp only at hSw); go_simp; (try with_reducible rfl))
          simp only [Act.put, List.setIfInBounds_toArray, List.set_cons_zero, List.set_cons_succ]
          refine wpAnyG_take (i := 14) (St := (fun w' => w'.cell? ⟨xb, 0, none⟩ = some (.int .u64 (x.stamp.toNat : Int)) ∧ w'.cell? ⟨xb, 2, none⟩ = some (.int .i64 (K : Int)))) (v := ?_) rfl (by kernel_rfl) (by kernel_rfl) (by kernel_rfl) (fun j w hd h => h.1) (fun _ _ _ h => h) (Or.inl ⟨by rfl, ?_⟩) (⟨k0, k2⟩) ?_
          rotate_left
          · intro w hSw; ((try dsimp only at hSw); go_simp; (try with_reducible rfl))
          simp only [Act.put, List.setIfInBounds_toArray, List.set_cons_zero, List.set_cons_succ]
          refine wpAnyG_take (i := 15) (St := (fun _ => True)) (v := ?_) rfl (by kernel_rfl) (by kernel_rfl) (by kernel_rfl) (fun _ _ _ _ => trivial) (fun _ _ _ h => h) (Or.inl ⟨by rfl, ?_⟩) (trivial) ?_
          rotate_left
          · intro w hSw; ((try dsimp only at hSw); go_simp; (try with_reducible rfl))
          simp only [Act.put, List.setIfInBounds_toArray, List.set_cons_zero, List.set_cons_succ]
          refine wpAnyG_take (i := 16) (St := (fun _ => True)) (v := ?_) rfl (by kernel_rfl) (by kernel_rfl) (by kernel_rfl) (fun _ _ _ _ => trivial) (fun _ _ _ h => h) (Or.inl ⟨by rfl, ?_⟩) (trivial) ?_
          rotate_left
          · intro w hSw; ((try dsimp only at hSw); go_simp; (try with_reducible rfl))
          simp only [Act.put, List.setIfInBounds_toArray, List.set_cons_zero, List.set_cons_succ]
          refine wpAnyG_take (i := 17) (St := (fun w' => w'.cell? ⟨xb, 0, none⟩ = some (.int .u64 (x.stamp.toNat : Int)) ∧ w'.cell? ⟨xb, 2, none⟩ = some (.int .i64 (K : Int)))) (v := ?_) rfl (by kernel_rfl) (by kernel_rfl) (by kernel_rfl) (fun j w hd h => h.1) (fun _ _ _ h => h) (Or.inl ⟨by rfl, ?_⟩) (⟨k0, k2⟩) ?_
          rotate_left
          · intro w hSw; ((try dsimp only at hSw); go_simp; (try with_reducible rfl))
          simp only [Act.put, List.setIfInBounds_toArray, List.set_cons_zero, List.set_cons_succ]
          rw [wrap_i64 (n := (e : Int) + (K : Int)) (by omega) (by omega), haddH.out]
          refine wpAnyG_one (i := 7) rfl (by kernel_rfl) ?_
          go_wp2_with fail
          refine ⟨.inr ⟨⟨hA0.out.1, hA0.out.2.1⟩, fun _ => hA0.out.2.2.1, fun _ => hA0.out.2.2.2⟩, ?_⟩
          refine wpAnyG_one (i := 8) rfl (by kernel_rfl) ?_
          refine lit_append hrunH.out ?_
          refine wpList_nil ?_
          refine ⟨.inr ⟨⟨hB0.out.1, hB0.out.2.1⟩, fun _ => hB0.out.2.2.1, fun _ => hB0.out.2.2.2⟩, ?_⟩
          simp only [Act.put, List.setIfInBounds_toArray, List.set_cons_zero, List.set_cons_succ]
          have q5 := hB0.out.2.2.1
          have q6 := hB0.out.2.2.2
          refine wpAnyG_one (i := 18) rfl (by kernel_rfl) ?_
          go_wp2_with fail
          (first | refine ⟨.inl trivial, ?_⟩ | refine ⟨.inl rfl, ?_⟩ | skip)
          refine wpAnyG_one (i := 19) rfl (by kernel_rfl) ?_
          go_wp2_with fail
          (first | refine ⟨.inl trivial, ?_⟩ | refine ⟨.inl rfl, ?_⟩ | skip)
          refine wpAnyG_one (i := 20) rfl (by kernel_rfl) ?_
          go_wp2_with fail
          refine ⟨.inr ⟨⟨hS0.out.1, hS0.out.2.1⟩, fun _ => hS0.out.2.2, fun h => by rcases h with h | h <;> omega⟩, ?_⟩
          refine wpAnyG_one (i := 21) rfl (by kernel_rfl) ?_
          go_wp2_with fail
          (first | refine ⟨.inl trivial, ?_⟩ | refine ⟨.inl rfl, ?_⟩ | skip)
          refine wpAnyG_one (i := 22) rfl (by kernel_rfl) ?_
          go_wp2_with fail
          (first | refine ⟨.inl trivial, ?_⟩ | refine ⟨.inl rfl, ?_⟩ | skip)
          refine wpAnyG_one (i := 23) rfl (by kernel_rfl) ?_
          go_wp2_with fail
          refine ⟨.inr ⟨⟨hT0.out.1, hT0.out.2⟩, fun h => by rcases h with h | h <;> omega, fun h => by rcases h with h | h <;> omega⟩, ?_⟩
          refine wpAnyG_one (i := 24) rfl (by kernel_rfl) ?_
          go_wp2_with fail
          (first | refine ⟨.inl trivial, ?_⟩ | refine ⟨.inl rfl, ?_⟩ | skip)
          refine wpAnyG_done (by kernel_rfl) ?_ _
          clear q5 q6 f5 f6
          go_wp2_with fail
          go_roundw
          case rel => exact ⟨f', e + K, x.stamp, rs ++ [R], o3, rfl, hF.out.1, hF.out.2.1, by omega, by omega, by omega, hR'⟩
          case measure => rw [haddH.out, hF.out.2.2, d5H.out]; omega
    · obtain rfl : N = e := by omega
      have hfin2 : LogM.readAll ls = (N, last, rs) := by
        rw [hfin.out, hR.out]
        exact LogM.readL_stop (s := (N, last, rs)) (by unfold LogM.accept; rw [List.getElem?_eq_none (by rw [hNH.out]; exact Nat.le_refl _)]) f
      have hfin2H := hidden hfin2
      clear hfin2
      go_wp2_with fail
      go_end0
      rw [hfin2H.out]
      exact ⟨_, o1, rfl, hst, rfl, hl⟩
end
end Go.Proofs.YtfgggkheadfiaaaR
/- The disk's law DiskSynced: its walk. -/
namespace Go.Proofs.YtfgggkheadfiaaaR
open Go Go.RowKit
attribute [local go_sem ↓] Go.wp_at_zero Go.wp_at_succ

theorem getD_set_in {α : Type} (l : List α) (i j : Nat) (x d : α) (hi : i < l.length) : (l.set i x).getD j d = if i = j then x else l.getD j d := by
  simp only [List.getD_eq_getElem?_getD, List.getElem?_set]
  by_cases h : i = j
  · subst h; simp [hi]
  · simp [h]
namespace DiskM
/-- Of a disk of six pages that was only written to: what each page's last write was. -/
def Syn (d : DiskM) (ls : List (List UInt8)) : Prop :=
  d.dead = false ∧ d.left = -1 ∧ d.pages = List.replicate 6 blank ∧ ls.length = 6 ∧ (∀ p, p < 6 → seenIn p blank d.row = if ls.getD p [] = [] then blank else ls.getD p []) ∧ ∀ x ∈ d.row, x.1 < 6 ∧ x.2.length = 512
end DiskM

/-- texts as cells. -/
def tvs (ls : List (List UInt8)) : List Value := ls.map fun b => .string ⟨b.toArray⟩


end Go.Proofs.YtfgggkheadfiaaaR
/- Plain laws: a log's acts on a disk whose power stays, or goes. No program in sight. -/
namespace Go.Proofs.YtfgggkheadfiaaaR
open Go Go.RowKit

namespace DiskM
def tick (d : DiskM) : DiskM := if d.left < 0 then d else { d with left := d.left - 1 }
theorem tick_same (d : DiskM) : d.tick.pages = d.pages ∧ d.tick.row = d.row ∧ d.tick.dead = d.dead := by unfold tick; split <;> exact ⟨rfl, rfl, rfl⟩
theorem tick_left (d : DiskM) : (d.left < 0 → d.tick.left = d.left) ∧ (0 < d.left → d.tick.left = d.left - 1) := by
  unfold tick; constructor
  · intro h; rw [if_pos h]
  · intro h; rw [if_neg (by omega)]
theorem counted_zero {d : DiskM} : d.counted 0 = if d.left = 0 then ({ d with dead := true }, 9) else (d.tick, 0) := by
  unfold counted tick
  by_cases h : d.left < 0
  · rw [if_pos (.inr h), if_neg (by omega), if_pos h]
  · rw [if_neg (by omega)]
    by_cases h2 : d.left = 0
    · rw [if_pos h2, if_pos h2]
    · rw [if_neg h2, if_neg h2, if_neg h]
theorem write_in {d : DiskM} (hd : d.dead = false) {j : Nat} (hj : j < d.pages.length) {l : List UInt8} (hl : l.length = 512) :
    d.write (j : Int) l = if d.left = 0 then ({ d with dead := true }, 9) else ({ d.tick with row := d.row ++ [(j, l)] }, 0) := by
  have ha : d.asked (j : Int) l.length = 0 := by
    unfold asked; rw [hd]; simp only [Bool.false_eq_true, if_false]; rw [if_neg (by omega)]
  unfold write
  rw [ha, counted_zero]
  split
  · simp
  · simp [(tick_same d).2.1]
theorem sync_in {d : DiskM} (hd : d.dead = false) (hp : 0 < d.pages.length) :
    d.sync = if d.left = 0 then ({ d with dead := true }, 9) else (d.tick.done fun _ => 512, 0) := by
  have ha : d.asked 0 512 = 0 := by
    unfold asked; rw [hd]; simp only [Bool.false_eq_true, if_false]; rw [if_neg (by omega)]
  unfold sync
  rw [ha, counted_zero]
  split <;> simp
end DiskM

namespace LogM
theorem put_any (l : LogM) (S : BitVec 64) (hS : l.stamp = S) (of' : Nat) (b : List UInt8) : ∀ (k i : Nat) (d : DiskM), d.dead = false → l.first + l.end' + i + k ≤ d.pages.length →
    ∃ m d', m ≤ k ∧ put l of' b k i d = (d', if m = k then 0 else 9) ∧ d'.pages = d.pages ∧ d'.row = d.row ++ ((List.range m).map fun t => (l.first + l.end' + i + t, LeafM.page ⟨S, i + t, of', part b (i + t)⟩)) ∧
      d'.dead = decide (m < k) ∧ (d.left < 0 → m = k ∧ d'.left = d.left) ∧ (0 ≤ d.left → 0 ≤ d'.left ∧ d'.left ≤ d.left)
  | 0, i, d, hd, hr => ⟨0, d, Nat.le_refl _, rfl, rfl, by simp, by simpa using hd, fun _ => ⟨rfl, rfl⟩, fun h => ⟨h, Int.le_refl _⟩⟩
  | k + 1, i, d, hd, hr => by
    have hw := DiskM.write_in hd (j := l.first + l.end' + i) (by omega) (l := LeafM.page ⟨l.stamp, i, of', part b i⟩) (LeafM.length_page (length_part _ _))
    unfold put
    simp only [hw]
    by_cases h0 : d.left = 0
    · rw [if_pos h0]
      refine ⟨0, { d with dead := true }, by omega, by rw [if_pos (show ((9 : Int) ≠ 0) from by omega), if_neg (by omega)], rfl, by simp, by simp, fun h => by omega, fun _ => ⟨by show 0 ≤ d.left; omega, Int.le_refl _⟩⟩
    · rw [if_neg h0]
      rw [if_neg (by simp)]
      obtain ⟨t1, t2, t3⟩ := DiskM.tick_same d
      obtain ⟨u1, u2⟩ := DiskM.tick_left d
      obtain ⟨m, d', q1, q2, q3, q4, q5, q6, q7⟩ := put_any l S hS of' b k (i + 1) { d.tick with row := d.row ++ [(l.first + l.end' + i, LeafM.page ⟨l.stamp, i, of', part b i⟩)] } (by show d.tick.dead = false; rw [t3]; exact hd) (by show _ ≤ d.tick.pages.length; rw [t1]; omega)
      refine ⟨m + 1, d', by omega, ?_, q3.trans t1, ?_, ?_, ?_, ?_⟩
      · rw [q2]
        by_cases hm : m = k
        · rw [if_pos hm, if_pos (by omega)]
        · rw [if_neg hm, if_neg (by omega)]
      · rw [q4]
        show (d.row ++ _) ++ _ = _
        rw [List.append_assoc, List.range_succ_eq_map, List.map_cons, List.map_map, hS]
        congr 1
        simp only [List.singleton_append, Nat.add_zero]
        congr 1
        apply List.map_congr_left
        intro t _
        simp only [Function.comp, Nat.succ_eq_add_one]
        rw [show i + 1 + t = i + (t + 1) from by omega, show l.first + l.end' + (i + 1) + t = l.first + l.end' + i + (t + 1) from by omega]
      · rw [q5]; simp
      · intro h
        obtain ⟨a, b⟩ := q6 (by show d.tick.left < 0; rw [u1 h]; exact h)
        exact ⟨by omega, b.trans (u1 h)⟩
      · intro h
        have hx := u2 (by omega)
        obtain ⟨a, b⟩ := q7 (by show 0 ≤ d.tick.left; omega)
        change d'.left ≤ d.tick.left at b
        exact ⟨a, by omega⟩

/-- The pages behind a record that was put from page e on. -/
def putPages (pages : List (List UInt8)) (e : Nat) (S : BitVec 64) (b : List UInt8) : List (List UInt8) :=
  (List.range pages.length).map fun j => if e ≤ j ∧ j < e + many b then LeafM.page ⟨S, j - e, many b, part b (j - e)⟩ else pages.getD j []
def headPages (pages : List (List UInt8)) (S : BitVec 64) : List (List UInt8) := pages.set 0 (LeafM.page ⟨S, 0, 0, []⟩)
theorem length_putPages (pages : List (List UInt8)) (e : Nat) (S : BitVec 64) (b : List UInt8) : (putPages pages e S b).length = pages.length := by simp [putPages]
theorem length_headPages (pages : List (List UInt8)) (S : BitVec 64) : (headPages pages S).length = pages.length := by simp [headPages]
theorem get_putPages (pages : List (List UInt8)) (e : Nat) (S : BitVec 64) (b : List UInt8) (j : Nat) : (putPages pages e S b)[j]? = if j < pages.length then (if e ≤ j ∧ j < e + many b then some (LeafM.page ⟨S, j - e, many b, part b (j - e)⟩) else pages[j]?) else none := by
  unfold putPages
  rw [List.getElem?_map]
  by_cases hj : j < pages.length
  · rw [List.getElem?_range hj, if_pos hj]
    simp only [Option.map_some]
    split
    · rfl
    · rw [List.getD_eq_getElem?_getD, List.getElem?_eq_getElem hj]; rfl
  · rw [List.getElem?_eq_none (by simp; omega), if_neg hj]; rfl

theorem length_seenPages (d : DiskM) (f n : Nat) : (seenPages d f n).length = n := by simp [seenPages]
theorem get_seenPages (d : DiskM) (f n j : Nat) (hj : j < n) : (seenPages d f n)[j]? = some (d.seen (f + j)) := by
  simp [seenPages, hj]
theorem seenPages_ext {d : DiskM} {f n : Nat} {l : List (List UInt8)} (hl : l.length = n) (h : ∀ j, j < n → l[j]? = some (d.seen (f + j))) : seenPages d f n = l := by
  apply List.ext_getElem?
  intro j
  by_cases hj : j < n
  · rw [get_seenPages _ _ _ _ hj, h j hj]
  · rw [List.getElem?_eq_none (by rw [length_seenPages]; omega), List.getElem?_eq_none (by omega)]

/-- The log is what its pages tell. -/
def Fine (s : LogM × DiskM) : Prop := s.1 = ofPages s.1.first (seenPages s.2 s.1.first s.1.n) ∧ s.1.first + s.1.n ≤ s.2.pages.length ∧ 2 ≤ s.1.n ∧ s.2.wf

theorem end_le (f : Nat) (pages : List (List UInt8)) (h1 : 1 ≤ pages.length) : 1 ≤ (ofPages f pages).end' ∧ (ofPages f pages).end' ≤ pages.length := by
  show 1 ≤ (if isHead (leavesOf pages) then (readAll (leavesOf pages)).1 else 1) ∧ (if isHead (leavesOf pages) then (readAll (leavesOf pages)).1 else 1) ≤ _
  split
  · rename_i hh
    have hl1 := isHead_len hh
    have hle := (readL_mono (leavesOf pages) (leavesOf pages).length (1, headStamp (leavesOf pages), [])).2 hl1
    have hge := (readL_mono (leavesOf pages) (leavesOf pages).length (1, headStamp (leavesOf pages), [])).1
    have : (leavesOf pages).length ≤ pages.length := by
      unfold leavesOf; rw [List.length_map]; exact (List.takeWhile_sublist _).length_le
    exact ⟨hge, Nat.le_trans hle this⟩
  · omega

theorem head8 {x : LeafM} (h : x.bytes.length ≤ 480) : num (x.page.take 8) = x.stamp ∧ num (x.page.drop 504) = x.stamp := by
  obtain ⟨e1, _, _, _, _, e2⟩ := LeafM.page_parts x h
  rw [e1, e2, num_be8]; exact ⟨rfl, rfl⟩
theorem newest_put {pages : List (List UInt8)} {e : Nat} {S : BitVec 64} {b : List UInt8} (hS : (newest pages).toNat ≤ S.toNat) (he : e + many b ≤ pages.length) : newest (putPages pages e S b) = S := by
  apply BitVec.eq_of_toNat_eq
  apply Nat.le_antisymm
  · rw [newest_le]
    intro p hp
    obtain ⟨j, hj⟩ := List.mem_iff_getElem?.1 hp
    rw [get_putPages] at hj
    split at hj
    · split at hj
      · simp only [Option.some.injEq] at hj
        subst hj
        obtain ⟨a, c⟩ := head8 (x := ⟨S, j - e, many b, part b (j - e)⟩) (length_part _ _)
        rw [a, c]; exact ⟨Nat.le_refl _, Nat.le_refl _⟩
      · have := newest_ge (List.mem_of_getElem? hj); omega
    · cases hj
  · have hk := many_pos b
    have hm : LeafM.page ⟨S, 0, many b, part b 0⟩ ∈ putPages pages e S b := by
      apply List.mem_of_getElem? (i := e)
      rw [get_putPages, if_pos (by omega), if_pos (by omega), Nat.sub_self]
    have := (newest_ge hm).1
    rw [(head8 (x := ⟨S, 0, many b, part b 0⟩) (length_part _ _)).1] at this
    exact this
theorem newest_head {pages : List (List UInt8)} {S : BitVec 64} (hS : (newest pages).toNat ≤ S.toNat) (h1 : 1 ≤ pages.length) : newest (headPages pages S) = S := by
  apply BitVec.eq_of_toNat_eq
  apply Nat.le_antisymm
  · rw [newest_le]
    intro p hp
    rcases List.mem_or_eq_of_mem_set hp with hp | rfl
    · have := newest_ge hp; omega
    · obtain ⟨a, c⟩ := head8 (x := ⟨S, 0, 0, []⟩) (by simp)
      rw [a, c]; exact ⟨Nat.le_refl _, Nat.le_refl _⟩
  · have hm : LeafM.page ⟨S, 0, 0, []⟩ ∈ headPages pages S := by
      apply List.mem_of_getElem? (i := 0)
      rw [headPages, List.getElem?_set_self (by omega)]
    have := (newest_ge hm).1
    rw [(head8 (x := ⟨S, 0, 0, []⟩) (by simp)).1] at this
    exact this
theorem ofPages_head {f : Nat} {pages : List (List UInt8)} {S : BitVec 64} (hS : (newest pages).toNat < S.toNat) (h1 : 1 ≤ pages.length) :
    ofPages f (headPages pages S) = { first := f, n := pages.length, stamp := S, headed := true, end' := 1, records := [], dead := false } := by
  obtain ⟨a, b⟩ := (records_head (pages := pages) (pages' := headPages pages S) hS (fun j hj => by rw [headPages, List.getElem?_set_ne (by omega)]) (.inr (.inl (by rw [headPages, List.getElem?_set_self (by omega)])))).1 (by rw [headPages, List.getElem?_set_self (by omega)])
  unfold ofPages
  simp only [a, b, if_true, newest_head (Nat.le_of_lt hS) h1, length_headPages]
theorem ofPages_put {f : Nat} {pages : List (List UInt8)} {S : BitVec 64} {b : List UInt8} (hh : (ofPages f pages).headed = true) (hS : (newest pages).toNat < S.toNat) (hk : many b < 65536) (he : (ofPages f pages).end' + many b ≤ pages.length) :
    ofPages f (putPages pages (ofPages f pages).end' S b) = { first := f, n := pages.length, stamp := S, headed := true, end' := (ofPages f pages).end' + many b, records := (ofPages f pages).records ++ [b], dead := false } := by
  have hh' : isHead (leavesOf pages) = true := hh
  have hee : (ofPages f pages).end' = (readAll (leavesOf pages)).1 := by show (if isHead (leavesOf pages) then _ else _) = _; rw [if_pos hh']
  have hrr : (ofPages f pages).records = (readAll (leavesOf pages)).2.2 := by show (if isHead (leavesOf pages) then _ else _) = _; rw [if_pos hh']
  rw [hrr]
  rw [hee] at he ⊢
  have hall : ∀ i, i < many b → (putPages pages (readAll (leavesOf pages)).1 S b)[(readAll (leavesOf pages)).1 + i]? = some (LeafM.page ⟨S, i, many b, part b i⟩) := fun i hi => by
    rw [get_putPages, if_pos (by omega), if_pos (by omega), Nat.add_sub_cancel_left]
  obtain ⟨a, c⟩ := records_put (pages := pages) (pages' := putPages pages (readAll (leavesOf pages)).1 S b) (b := b) hh' hS hk
    (fun j hj => by
      rw [get_putPages]
      split
      · rw [if_neg (by omega)]
      · rw [List.getElem?_eq_none (by omega)])
    (fun i hi => ⟨_, hall i hi, .inr (.inl rfl)⟩)
  rcases c with ⟨_, c⟩ | ⟨c1, c2⟩
  · exact (c hall).elim
  · unfold ofPages
    simp only [a, c1, c2, if_true, newest_put (Nat.le_of_lt hS) he, length_putPages]
end LogM
end Go.Proofs.YtfgggkheadfiaaaR
