/- Contract: what a page says. -/
import Derived.Test.YtfgggkheadfiaaaRLog6
namespace Go.Proofs.YtfgggkheadfiaaaR
open Go Go.RowKit
attribute [local go_sem ↓] Go.wp_at_zero Go.wp_at_succ

/-- A leaf as a value. -/
def leafV (x : LeafM) (bv : Value) : List Value := [.int .u64 (x.stamp.toNat : Int), .int .i64 (x.at' : Int), .int .i64 (x.of' : Int), bv]
theorem part_fresh {w : World} {o : Own} {b off n c : Nat} {l : List UInt8} (h : Bytes w o (.slice (some ⟨b, off, none⟩) n c) l) (lo hi : Nat) (h1 : lo ≤ hi) (h2 : hi ≤ l.length) (m : Nat) (hm : hi - lo = m) :
    Bytes w o (.slice (some ⟨b, off + lo, none⟩) m (c - lo)) ((l.drop lo).take m) := by
  subst hm; exact h.part lo hi h1 h2

theorem results_row_tmp {P : Program} {fn : Func} {p u : Tmp} {ty : TypeId} (h : fn.results = #[.cell p ty, .tmp u]) (tmps : Array Value) (w : World) (g : Nat) (t : TypeId) (cs : Array Value) (fr : Nat × Nat) (d : TypeDesc)
    (hp : tmps.getD p undef = .pointer (some ⟨g, 0, none⟩)) (hg : w.heap[g]? = some (.cells cs t fr))
    (hu : P.underlying ty = some d) (hd : (match d with | .struct _ | .array _ _ => true | _ => false) = true) (hi : (P.info? ty).map (·.size) = some cs.size) :
    (results fn tmps).run P w = .ok (.tuple #[.agg cs, tmps.getD u undef]) w := by
  rw [results_cell_tmp h, hp]
  simp [asAddr, run_loadVar_row w g t ty cs fr d hg hu hd hi]
theorem len6 {α : Type} {l : List α} (h : l.length = 6) : ∃ a b c d e f, l = [a, b, c, d, e, f] := by
  match l, h with
  | [a, b, c, d, e, f], _ => exact ⟨a, b, c, d, e, f, rfl⟩
theorem len7 {α : Type} {l : List α} (h : l.length = 7) : ∃ a b c d e f g, l = [a, b, c, d, e, f, g] := by
  match l, h with
  | [a, b, c, d, e, f, g], _ => exact ⟨a, b, c, d, e, f, g, rfl⟩
theorem wrap_i64 {n : Int} (h1 : -9223372036854775808 ≤ n) (h2 : n ≤ 9223372036854775807) : IntKind.i64.wrap n = n := by
  simp [IntKind.wrap, IntKind.bits, IntKind.signed]; omega
theorem run_store_agg {P : Program} {w : World} {b : Nat} {cs vs : List Value} {E ty : TypeId} (h : w.heap[b]? = some (.cells cs.toArray E (0, 0))) (hl : vs.length = cs.length) (hi : (P.info? ty).map (·.size) = some vs.length) (h1 : vs.all (·.oneCell') = true) :
    (Instr.storeAt ty (.pointer (some ⟨b, 0, none⟩)) (.agg vs.toArray)).run P w = .ok () (w.setCells b 0 vs) ∧ (w.setCells b 0 vs).heap[b]? = some (.cells vs.toArray E (0, 0)) := by
  constructor
  · have ht := there_of_block h 0 vs.length (by omega)
    simp only [Instr.storeAt, Instr.sureAddr, Sem.run_bind, Sem.run_pure, Result.andThen_ok]
    rw [run_storeVar_mid w b 0 ty vs.toArray (by simpa using ht) (by simpa using hi) (all_oneCell_toArray (by simpa using h1))]
  · have := heap_setCells_same b E vs 0 w cs h (by omega)
    rw [this]
    simp [hl]
set_option maxRecDepth 100000 in
set_option maxHeartbeats 3200000 in
theorem said_any {w : World} {o : Own} {v : Value} {p : List UInt8} (hb : Bytes w o v p) (hp : p.length = 512) :
    Calls Try.prog 78 #[v] w (Ret Nobody w o fun v w' o' => ∃ bv, v = .tuple #[.agg (leafV (saidL p).1 bv).toArray, .bool (saidL p).2] ∧ Bytes w' o' bv (saidL p).1.bytes) := by
  have hs0 : Step Nobody w o (w.alloc (.cells #[.int .u64 0, .int .i64 0, .int .i64 0, .slice none 0 0] 139)) (tagAt o w.heap.size (0, 0)) := (Step.refl _ w o).alloc _ _
  have hbx : (w.alloc (.cells #[.int .u64 0, .int .i64 0, .int .i64 0, .slice none 0 0] 139)).heap[w.heap.size]? = some (.cells #[.int .u64 0, .int .i64 0, .int .i64 0, .slice none 0 0] 139 (0, 0)) := heap_alloc_new w _
  have hb0 := hb.step hs0 (fun h => h)
  have hlt := lt_of_block hbx
  obtain ⟨X, hX0, hXf⟩ := fresh_tag o w.heap.size 0
  have hX : X ≠ 0 := by omega
  have hN : ¬ Only X 0 := fun h => hX h.symm
  clear hX0
  rcases hb.cases with ⟨_, rfl⟩ | ⟨b, off, cap, rfl, hcl, hcm, hbo, hbl, hr⟩
  · simp at hp
  rw [hp] at hb0 hcl ⊢
  have q1 := part_fresh hb0 0 8 (by omega) (by omega) 8 rfl
  have q2 := part_fresh hb0 8 10 (by omega) (by omega) 2 rfl
  have q3 := part_fresh hb0 10 12 (by omega) (by omega) 2 rfl
  have q4 := part_fresh hb0 12 16 (by omega) (by omega) 4 rfl
  have q5 := fun (n : Nat) (hn : n ≤ 480) => part_fresh hb0 16 (16 + n) (by omega) (by omega) n (by omega)
  have hc1 : (512 : Int) ≤ (cap : Int) := by omega
  have hc2 : (cap : Int) ≤ 9223372036854775807 := by simp only [maxLen] at hcm; omega
  have n8 : ¬ (cap = 8) := by omega
  have k8 : (8 : Int) ≤ (cap : Int) := by omega
  have k10 : (10 : Int) ≤ (cap : Int) := by omega
  have k12 : (12 : Int) ≤ (cap : Int) := by omega
  have k16 : (16 : Int) ≤ (cap : Int) := by omega
  have n10 : ¬ (cap = 10) := by omega
  have n12 : ¬ (cap = 12) := by omega
  have n16 : ¬ (cap = 16) := by omega
  clear hb hr
  obtain ⟨W0, hW0⟩ : ∃ W0, w.alloc (.cells #[.int .u64 0, .int .i64 0, .int .i64 0, .slice none 0 0] 139) = W0 := ⟨_, rfl⟩
  rw [hW0] at hs0 hbx hb0 hlt q1 q2 q3 q4 q5
  generalize tagAt o w.heap.size (0, 0) = o0 at *
  have hW0H := hidden hW0
  clear hW0
  go_enter Try.func78, Try.ntmps78
  go_wp2_with fail
  rw [hW0H.out]
  refine wp_region_need (fun w' => True) (fun _ => true) (by kernel_rfl) trivial (fun hHeld => ?_)
  refine wpAnyN_take (i := 0) (v := ?_) rfl (by kernel_rfl) (by kernel_rfl) (by kernel_rfl) (by kernel_rfl) (fun _ _ _ h => h) (Or.inl ⟨by rfl, ?_⟩) (by assumption) ?_
  rotate_left
  · intro w hSw; ((try dsimp only at hSw); go_simp; (try with_reducible rfl))
  simp only [Act.put, List.setIfInBounds_toArray, List.set_cons_zero, List.set_cons_succ]
  refine wpAnyN_take (i := 1) (v := ?_) rfl (by kernel_rfl) (by kernel_rfl) (by kernel_rfl) (by kernel_rfl) (fun _ _ _ h => h) (Or.inl ⟨by rfl, ?_⟩) (by assumption) ?_
  rotate_left
  · intro w hSw; ((try dsimp only at hSw); go_simp; (try with_reducible rfl))
  simp only [Act.put, List.setIfInBounds_toArray, List.set_cons_zero, List.set_cons_succ]
  refine wpAnyN_take (i := 3) (v := ?_) rfl (by kernel_rfl) (by kernel_rfl) (by kernel_rfl) (by kernel_rfl) (fun _ _ _ h => h) (Or.inl ⟨by rfl, ?_⟩) (by assumption) ?_
  rotate_left
  · intro w hSw; ((try dsimp only at hSw); go_simp; (try with_reducible rfl))
  simp only [Act.put, List.setIfInBounds_toArray, List.set_cons_zero, List.set_cons_succ]
  refine wpAnyN_take (i := 4) (v := ?_) rfl (by kernel_rfl) (by kernel_rfl) (by kernel_rfl) (by kernel_rfl) (fun _ _ _ h => h) (Or.inl ⟨by rfl, ?_⟩) (by assumption) ?_
  rotate_left
  · intro w hSw; ((try dsimp only at hSw); go_simp; (try with_reducible rfl))
  simp only [Act.put, List.setIfInBounds_toArray, List.set_cons_zero, List.set_cons_succ]
  refine wpAnyN_take (i := 7) (v := ?_) rfl (by kernel_rfl) (by kernel_rfl) (by kernel_rfl) (by kernel_rfl) (fun _ _ _ h => h) (Or.inl ⟨by rfl, ?_⟩) (by assumption) ?_
  rotate_left
  · intro w hSw; ((try dsimp only at hSw); go_simp; (try with_reducible rfl))
  simp only [Act.put, List.setIfInBounds_toArray, List.set_cons_zero, List.set_cons_succ]
  refine wpAnyN_take (i := 8) (v := ?_) rfl (by kernel_rfl) (by kernel_rfl) (by kernel_rfl) (by kernel_rfl) (fun _ _ _ h => h) (Or.inl ⟨by rfl, ?_⟩) (by assumption) ?_
  rotate_left
  · intro w hSw; ((try dsimp only at hSw); go_simp; (try with_reducible rfl))
  simp only [Act.put, List.setIfInBounds_toArray, List.set_cons_zero, List.set_cons_succ]
  have hdr : Step Nobody W0 o0 W0.drew o0 := (Step.refl _ _ _).drew
  have ha1 : (num ((p.drop 8).take 2)).toNat < 65536 := by rw [num_small (by simp; omega)]; have := numN_lt ((p.drop 8).take 2); have h2 : ((p.drop 8).take 2).length = 2 := by simp; omega
                                                           rw [h2] at this; omega
  have ha2 : (num ((p.drop 10).take 2)).toNat < 65536 := by rw [num_small (by simp; omega)]; have := numN_lt ((p.drop 10).take 2); have h2 : ((p.drop 10).take 2).length = 2 := by simp; omega
                                                            rw [h2] at this; omega
  refine wpAnyN_midl (fuel := 1) [2, 5, 6, 9, 10, 11, 12] [8, 11, 12, 15, 16, 17, 4] [_, _, _, _, _, _, _] Nobody (fun s w' o' => Step Nobody W0.drew o0 w' o')
    (fun k u w' o' => match k with
      | 0 => u = .int .u64 ((num (p.take 8)).toNat : Int)
      | 1 => u = .int .u64 ((num ((p.drop 8).take 2)).toNat : Int)
      | 2 => u = .int .i64 ((num ((p.drop 8).take 2)).toNat : Int)
      | 3 => u = .int .u64 ((num ((p.drop 10).take 2)).toNat : Int)
      | 4 => u = .int .i64 ((num ((p.drop 10).take 2)).toNat : Int)
      | 5 => u = .agg #[.int .u64 ((num (p.take 8)).toNat : Int), .int .i64 ((num ((p.drop 8).take 2)).toNat : Int), .int .i64 ((num ((p.drop 10).take 2)).toNat : Int), .slice none 0 0]
      | _ => ∃ g, u = .pointer (some ⟨g, 0, none⟩) ∧ W0.heap.size ≤ g ∧ w'.heap[g]? = some (.cells #[.int .u64 0, .int .i64 0, .int .i64 0, .slice none 0 0] 139 (0, 0)) ∧ o' g = (X, 0)) rfl (by kernel_rfl)
    (fun k u w o w' o' h hs => by
      match k with
      | 0 => exact h
      | 1 => exact h
      | 2 => exact h
      | 3 => exact h
      | 4 => exact h
      | 5 => exact h
      | k + 6 =>
        obtain ⟨g, rfl, hg, hh, hog⟩ := h
        exact ⟨g, rfl, hg, by rw [hs.block g (lt_of_block hh) (fun h => h)]; exact hh, by rw [hs.own g (lt_of_block hh)]; exact hog⟩) [undef, undef, undef, undef, undef, undef, undef] rfl rfl (Step.refl _ _ _) ⟨?_, ?_, ?_, ?_, ?_, ?_, ?_, trivial⟩ ?_
  · intro s us w2 o2 hsl hul hsk hdep hJ hR
    obtain ⟨u0, u1, u2, u3, u4, u5, u6, rfl⟩ := len7 hul
    simp only [Act.puts, Act.put, List.setIfInBounds_toArray, List.set_cons_zero, List.set_cons_succ]
    have hq := (q1.step hdr (fun h => h)).step hJ (fun h => h)
    go_wp2_with fail
    refine (lnumber_any hq (by simp; omega)).mono ?_; rintro e w3 ⟨rfl, rfl⟩
    go_wp2_with fail
    exact ⟨_, o2, rfl, Step.refl _ _ _, hJ, rfl, fun _ => trivial⟩
  · intro s us w2 o2 hsl hul hsk hdep hJ hR
    obtain ⟨u0, u1, u2, u3, u4, u5, u6, rfl⟩ := len7 hul
    simp only [Act.puts, Act.put, List.setIfInBounds_toArray, List.set_cons_zero, List.set_cons_succ]
    have hq := (q2.step hdr (fun h => h)).step hJ (fun h => h)
    go_wp2_with fail
    refine (lnumber_any hq (by simp; omega)).mono ?_; rintro e w3 ⟨rfl, rfl⟩
    go_wp2_with fail
    exact ⟨_, o2, rfl, Step.refl _ _ _, hJ, rfl, fun _ => trivial⟩
  · intro s us w2 o2 hsl hul hsk hdep hJ hR
    obtain ⟨u0, u1, u2, u3, u4, u5, u6, rfl⟩ := len7 hul
    simp only [Act.puts, Act.put, List.setIfInBounds_toArray, List.set_cons_zero, List.set_cons_succ]
    have hu : u1 = .int .u64 _ := hR 1 (hdep 1 5 rfl (by kernel_rfl))
    subst hu
    go_wp2_with fail
    exact ⟨_, o2, rfl, Step.refl _ _ _, hJ, rfl, fun _ => trivial⟩
  · intro s us w2 o2 hsl hul hsk hdep hJ hR
    obtain ⟨u0, u1, u2, u3, u4, u5, u6, rfl⟩ := len7 hul
    simp only [Act.puts, Act.put, List.setIfInBounds_toArray, List.set_cons_zero, List.set_cons_succ]
    have hq := (q3.step hdr (fun h => h)).step hJ (fun h => h)
    go_wp2_with fail
    refine (lnumber_any hq (by simp; omega)).mono ?_; rintro e w3 ⟨rfl, rfl⟩
    go_wp2_with fail
    exact ⟨_, o2, rfl, Step.refl _ _ _, hJ, rfl, fun _ => trivial⟩
  · intro s us w2 o2 hsl hul hsk hdep hJ hR
    obtain ⟨u0, u1, u2, u3, u4, u5, u6, rfl⟩ := len7 hul
    simp only [Act.puts, Act.put, List.setIfInBounds_toArray, List.set_cons_zero, List.set_cons_succ]
    have hu : u3 = .int .u64 _ := hR 3 (hdep 3 9 rfl (by kernel_rfl))
    subst hu
    go_wp2_with fail
    exact ⟨_, o2, rfl, Step.refl _ _ _, hJ, rfl, fun _ => trivial⟩
  · intro s us w2 o2 hsl hul hsk hdep hJ hR
    obtain ⟨u0, u1, u2, u3, u4, u5, u6, rfl⟩ := len7 hul
    simp only [Act.puts, Act.put, List.setIfInBounds_toArray, List.set_cons_zero, List.set_cons_succ]
    have hu : u0 = .int .u64 _ := hR 0 (hdep 0 2 rfl (by kernel_rfl))
    have hu2 : u2 = .int .i64 _ := hR 2 (hdep 2 6 rfl (by kernel_rfl))
    have hu4 : u4 = .int .i64 _ := hR 4 (hdep 4 10 rfl (by kernel_rfl))
    subst hu hu2 hu4
    go_wp2_with fail
    exact ⟨_, o2, rfl, Step.refl _ _ _, hJ, rfl, fun _ => trivial⟩
  · intro s us w2 o2 hsl hul hsk hdep hJ hR
    obtain ⟨u0, u1, u2, u3, u4, u5, u6, rfl⟩ := len7 hul
    simp only [Act.puts, Act.put, List.setIfInBounds_toArray, List.set_cons_zero, List.set_cons_succ]
    have hsa := (Step.refl Nobody w2 o2).alloc (.cells #[.int .u64 0, .int .i64 0, .int .i64 0, .slice none 0 0] 139) (X, 0)
    have hnew := heap_alloc_new w2 (.cells #[.int .u64 0, .int .i64 0, .int .i64 0, .slice none 0 0] 139)
    have hsz := hJ.size
    go_wp2_with fail
    exact ⟨_, _, rfl, hsa, hJ.trans hsa, ⟨_, rfl, hsz, hnew, tagAt_same _ _ _⟩, fun _ => trivial⟩
  intro us W2 o2 hul hJ hR
  obtain ⟨u0, u1, u2, u3, u4, u5, u6, rfl⟩ := len7 hul
  simp only [Act.puts, Act.put, List.setIfInBounds_toArray, List.set_cons_zero, List.set_cons_succ]
  have r0 : u0 = .int .u64 ((num (p.take 8)).toNat : Int) := hR 0 (by simp)
  have r1 : u1 = .int .u64 ((num ((p.drop 8).take 2)).toNat : Int) := hR 1 (by simp)
  have r2 : u2 = .int .i64 ((num ((p.drop 8).take 2)).toNat : Int) := hR 2 (by simp)
  have r3 : u3 = .int .u64 ((num ((p.drop 10).take 2)).toNat : Int) := hR 3 (by simp)
  have r4 : u4 = .int .i64 ((num ((p.drop 10).take 2)).toNat : Int) := hR 4 (by simp)
  have r5 : u5 = .agg #[.int .u64 ((num (p.take 8)).toNat : Int), .int .i64 ((num ((p.drop 8).take 2)).toNat : Int), .int .i64 ((num ((p.drop 10).take 2)).toNat : Int), .slice none 0 0] := hR 5 (by simp)
  have r6 : ∃ g, u6 = .pointer (some ⟨g, 0, none⟩) ∧ W0.heap.size ≤ g ∧ W2.heap[g]? = some (.cells #[.int .u64 0, .int .i64 0, .int .i64 0, .slice none 0 0] 139 (0, 0)) ∧ o2 g = (X, 0) := hR 6 (by simp)
  obtain ⟨g, rfl, hgw, hgh, hgo⟩ := r6
  subst r0 r1 r2 r3 r4 r5
  clear hR
  obtain ⟨A, hA⟩ : ∃ A, num (p.take 8) = A := ⟨_, rfl⟩
  obtain ⟨B, hB⟩ : ∃ B, (num ((p.drop 8).take 2)).toNat = B := ⟨_, rfl⟩
  obtain ⟨C, hC⟩ : ∃ C, (num ((p.drop 10).take 2)).toNat = C := ⟨_, rfl⟩
  rw [hA, hB, hC]
  rw [hB] at ha1
  rw [hC] at ha2
  have hAH := hidden hA
  have hBH := hidden hB
  have hCH := hidden hC
  clear hA hB hC
  have hst := ((hs0.trans hdr).trans hJ).only X
  have hbW := (hb0.step hdr (fun h => h)).step hJ (fun h => h)
  have q4' := (q4.step hdr (fun h => h)).step hJ (fun h => h)
  have q5' := fun n hn => ((q5 n hn).step hdr (fun h => h)).step hJ (fun h => h)
  have hbxW : W2.heap[w.heap.size]? = _ := (hJ.block w.heap.size hlt (fun h => h)).trans hbx
  have hgw2 : w.heap.size < g := by omega
  clear hJ q1 q2 q3 q4 q5 hbx hb0 hs0 hdr hHeld
  have hHeld : True := trivial
  obtain ⟨hsr, hsh⟩ := run_store_agg (P := Try.prog) (ty := 139) (vs := [.int .u64 (A.toNat : Int), .int .i64 (B : Int), .int .i64 (C : Int), .slice none 0 0]) hgh rfl (by kernel_rfl) rfl
  have hs3 := (Step.refl (Only X) W2 o2).setCells g 0 [.int .u64 (A.toNat : Int), .int .i64 (B : Int), .int .i64 (C : Int), .slice none 0 0] (.inl (by rw [hgo]; rfl))
  refine wpAnyN_one (i := 13) rfl (by kernel_rfl) ?_
  refine lit_store hsr ?_
  refine wpList_nil ?_
  refine ⟨fun _ => trivial, ?_⟩
  refine wpAnyN_done (by kernel_rfl) ?_ _
  have hst := hst.trans hs3
  have hbW := hbW.step hs3 hN
  have q4' := q4'.step hs3 hN
  have q5' := fun n hn => (q5' n hn).step hs3 hN
  have hgl := lt_of_block hgh
  have hgw' : w.heap.size < W2.heap.size := by omega
  have hbxW : (W2.setCells g 0 [.int .u64 (A.toNat : Int), .int .i64 (B : Int), .int .i64 (C : Int), .slice none 0 0]).heap[w.heap.size]? = _ := (heap_setCells_other g _ 0 W2 w.heap.size (by omega)).trans hbxW
  have hszW := size_setCells g [.int .u64 (A.toNat : Int), .int .i64 (B : Int), .int .i64 (C : Int), .slice none 0 0] 0 W2
  clear hs3 hsr hgh
  generalize W2.setCells g 0 [.int .u64 (A.toNat : Int), .int .i64 (B : Int), .int .i64 (C : Int), .slice none 0 0] = W3 at *
  have x0 := cell_of_block hsh 0
  simp only [List.getElem?_cons_zero] at x0
  go_wp2_with fail
  refine (lnumber_any q4' (by simp; omega)).mono ?_; rintro e w' ⟨rfl, rfl⟩
  obtain ⟨N, hNe⟩ : ∃ N, num ((p.drop 12).take 4) = N := ⟨_, rfl⟩
  rw [hNe]
  have hNH := hidden hNe
  clear hNe q4'
  by_cases hA0 : A = 0#64
  · have hE : saidL p = (noLeaf, false) := by unfold saidL; rw [hAH.out, if_pos (.inl hA0)]
    have hEH := hidden hE
    clear hE
    subst hA0
    have hz : (((0#64 : BitVec 64)).toNat : Int) = 0 := rfl
    rw [hz] at x0 hsh ⊢
    clear hz
    obtain ⟨hsr0, hsh0⟩ := run_store_agg (P := Try.prog) (ty := 139) (vs := [.int .u64 0, .int .i64 0, .int .i64 0, .slice none 0 0]) hbxW rfl (by kernel_rfl) rfl
    have hs4 := (Step.refl (Only X) W3 o2).setCells w.heap.size 0 [.int .u64 0, .int .i64 0, .int .i64 0, .slice none 0 0]
    have hst4 := hst.setCells w.heap.size 0 [.int .u64 0, .int .i64 0, .int .i64 0, .slice none 0 0] (.inr (Nat.le_refl _))
    have hsrH := hidden hsr0
    clear hsr0 hs4 hbW q5' hsh hbxW
    go_wp2_with ((with_reducible apply lit_store); exact hsrH.out; simp only [Act.put])
    refine bodyPost_ret (results_row_tmp rfl _ _ w.heap.size 139 _ (0, 0) _ rfl hsh0 Try.underlying139 rfl (by kernel_rfl)) rfl ?_
    rw [hEH.out]
    exact ⟨_, o2, rfl, hst4.nobody hXf, _, rfl, Bytes.nil _ _⟩
  · by_cases hN0 : 480 < N.toNat
    · have hE : saidL p = (noLeaf, false) := by unfold saidL; rw [hNH.out, if_pos (.inr hN0)]
      have hEH := hidden hE
      clear hE
      have hA1 : ((A.toNat : Int) == 0) = false := by
        rw [beq_eq_false_iff_ne]; intro h
        exact hA0 (BitVec.eq_of_toNat_eq (by simp; omega))
      have hN1 : (480 : Int) < (N.toNat : Int) := by omega
      obtain ⟨hsr0, hsh0⟩ := run_store_agg (P := Try.prog) (ty := 139) (vs := [.int .u64 0, .int .i64 0, .int .i64 0, .slice none 0 0]) hbxW rfl (by kernel_rfl) rfl
      have hst4 := hst.setCells w.heap.size 0 [.int .u64 0, .int .i64 0, .int .i64 0, .slice none 0 0] (.inr (Nat.le_refl _))
      have hsrH := hidden hsr0
      clear hsr0 hbW q5' hsh hbxW hA0 hN0
      go_wp2_with ((with_reducible apply lit_store); exact hsrH.out; simp only [Act.put])
      refine bodyPost_ret (results_row_tmp rfl _ _ w.heap.size 139 _ (0, 0) _ rfl hsh0 Try.underlying139 rfl (by kernel_rfl)) rfl ?_
      rw [hEH.out]
      exact ⟨_, o2, rfl, hst4.nobody hXf, _, rfl, Bytes.nil _ _⟩
    · have hA1 : ((A.toNat : Int) == 0) = false := by
        rw [beq_eq_false_iff_ne]; intro h
        exact hA0 (BitVec.eq_of_toNat_eq (by simp; omega))
      have hN1 : ¬ (480 : Int) < (N.toNat : Int) := by omega
      obtain ⟨n, hn⟩ : ∃ n, N.toNat = n := ⟨_, rfl⟩
      rw [hn] at hN0 hN1 ⊢
      have hE : saidL p = (⟨A, B, C, (p.drop 16).take n⟩, LeafM.page ⟨A, B, C, (p.drop 16).take n⟩ == p) := by
        unfold saidL
        rw [hNH.out, hAH.out, hn, if_neg (by simp only [not_or]; exact ⟨hA0, hN0⟩)]
        unfold leafOf
        rw [hAH.out, hBH.out, hCH.out, hNH.out, hn]
      have hEH := hidden hE
      clear hE
      have hq := q5' n (by omega)
      have hcl5 := clone_any (l := (p.drop 16).take n) hq (by simp; omega)
      clear q5' hA0 hn
      have hn480 : (n : Int) ≤ 480 := by omega
      have k16n : (16 : Int) + (n : Int) ≤ (cap : Int) := by omega
      have k16m : (16 : Int) ≤ 16 + (n : Int) := by omega
      go_wp2_with fail
      refine hcl5.mono ?_; rintro e W4 ⟨v4, o4, rfl, hs5, hn4⟩
      have hpl : ((p.drop 16).take n).length = n := by simp; omega
      obtain ⟨pl, hple⟩ : ∃ pl, (p.drop 16).take n = pl := ⟨_, rfl⟩
      rw [hple] at hn4 hpl hEH
      have hb4 := hn4.bytes
      have hown4 := hn4.1
      obtain ⟨a4, c4, rfl⟩ := slc_form hb4
      have hbne' : ∀ b' off', a4 = some ⟨b', off', none⟩ → b' ≠ w.heap.size := fun b' off' h => by
        subst h
        have h1 := (hown4.lt b' rfl).1
        have h2 := lt_of_block hbxW
        omega
      clear hown4
      rw [hpl] at hb4 ⊢
      have hplH := hidden hpl
      have hgl3 := lt_of_block hsh
      have hwl3 := lt_of_block hbxW
      have hsh4 : W4.heap[g]? = _ := (hs5.block g hgl3 (fun h => h)).trans hsh
      have hbx4 : W4.heap[w.heap.size]? = _ := (hs5.block w.heap.size hwl3 (fun h => h)).trans hbxW
      have hgo4 : o4 g = (X, 0) := (hs5.own g hgl3).trans hgo
      have hst5 := hst.trans (hs5.only X)
      have hbW4 := hbW.step hs5 (fun h => h)
      have y3 := cell_of_block hsh4 3
      have f3 := free_of_block hsh4 3
      simp only [List.getElem?_cons_succ, List.getElem?_cons_zero] at y3
      have hs6 := (Step.refl (Only X) W4 o4).setCell (a := ⟨g, 3, none⟩) (.slice a4 n c4) (.inl (by rw [hgo4]; rfl))
      have hsh6 := heap_setCell_at (i := 3) (.slice a4 n c4) hsh4
      simp only [List.set_cons_succ, List.set_cons_zero] at hsh6
      have hst6 := hst5.trans hs6
      have hbW6 := hbW4.step hs6 hN
      have hb6 := hb4.step hs6 hN
      have hbx6 : (W4.setCell ⟨g, 3, none⟩ (.slice a4 n c4)).heap[w.heap.size]? = _ := (Below.heap_setCell _ _ _ _ (by show w.heap.size ≠ g; omega)).trans hbx4
      have hgne : w.heap.size ≠ g := by omega
      clear hcl5 hn4 hb4 hpl hple hs6 hsh4 hbx4 hst5 hbW4 hst hbW hsh hbxW hs5 x0 hq
      go_wp2_with fail
      obtain ⟨W5, hW5⟩ : ∃ W5, W4.setCell ⟨g, 3, none⟩ (.slice a4 n c4) = W5 := ⟨_, rfl⟩
      rw [hW5] at hsh6 hst6 hbW6 hb6 hbx6 ⊢
      clear hW5 y3 f3
      have hrg : W5.rangeAt g 0 [.int .u64 (A.toNat : Int), .int .i64 (B : Int), .int .i64 (C : Int), .slice a4 n c4] := range_whole hsh6
      refine wp_region_need (fun w' => w'.rangeAt g 0 [.int .u64 (A.toNat : Int), .int .i64 (B : Int), .int .i64 (C : Int), .slice a4 n c4]) (fun _ => true) (by kernel_rfl) hrg (fun hHeld => ?_)
      refine wpAnyN_take (i := 0) (v := .agg #[.int .u64 (A.toNat : Int), .int .i64 (B : Int), .int .i64 (C : Int), .slice a4 n c4]) rfl (by kernel_rfl) (by kernel_rfl) (by kernel_rfl) (by kernel_rfl) (fun _ _ _ h => h)
        (yieldsIf_load_mid rfl 139 (.tmp 4) rfl g 0 rfl [.int .u64 (A.toNat : Int), .int .i64 (B : Int), .int .i64 (C : Int), .slice a4 n c4] _ (fun w h => h) Try.underlying139 rfl (by kernel_rfl)) (by assumption) ?_
      simp only [Act.put, List.setIfInBounds_toArray, List.set_cons_zero, List.set_cons_succ]
      refine wpAnyN_take (i := 1) (v := .agg #[.int .u64 (A.toNat : Int), .int .i64 (B : Int), .int .i64 (C : Int), .slice a4 n c4]) rfl (by kernel_rfl) (by kernel_rfl) (by kernel_rfl) (by kernel_rfl) (fun _ _ _ h => h)
        (yieldsIf_load_mid rfl 139 (.tmp 4) rfl g 0 rfl [.int .u64 (A.toNat : Int), .int .i64 (B : Int), .int .i64 (C : Int), .slice a4 n c4] _ (fun w h => h) Try.underlying139 rfl (by kernel_rfl)) (by assumption) ?_
      simp only [Act.put, List.setIfInBounds_toArray, List.set_cons_zero, List.set_cons_succ]
      refine wpAnyN_take (i := 3) (v := ?_) rfl (by kernel_rfl) (by kernel_rfl) (by kernel_rfl) (by kernel_rfl) (fun _ _ _ h => h) (Or.inl ⟨by rfl, ?_⟩) (by assumption) ?_
      rotate_left
      · intro w hSw; ((try dsimp only at hSw); go_simp; (try with_reducible rfl))
      simp only [Act.put, List.setIfInBounds_toArray, List.set_cons_zero, List.set_cons_succ]
      have hdr6 : Step Nobody W5 o4 W5.drew o4 := (Step.refl _ _ _).drew
      have hb7 := hb6.step hdr6 (fun h => h)
      have hbW7 := hbW6.step hdr6 (fun h => h)
      have hst7 := hst6.trans (hdr6.only X)
      have hbx7 : W5.drew.heap[w.heap.size]? = _ := hbx6
      have hsh7 : W5.drew.heap[g]? = _ := hsh6
      have hpage := page_any (w := W5.drew) (o := o4) (bv := .slice a4 n c4) ⟨A, B, C, pl⟩ hb7 (by show pl.length ≤ 480; have := hplH.out; omega) (by show B ≤ 1000000; omega) (by show C ≤ 1000000; omega)
      clear hb6 hbW6 hst6 hbx6 hsh6 hrg
      refine wpAnyN_one (i := 2) rfl (by kernel_rfl) ?_
      go_wp2_with fail
      refine hpage.mono ?_; rintro e W6 ⟨v6, o6, rfl, hs7, hn6⟩
      have hwl7 := lt_of_block hbx7
      have hgl7 := lt_of_block hsh7
      have hS6 : W6.rangeAt g 0 [.int .u64 (A.toNat : Int), .int .i64 (B : Int), .int .i64 (C : Int), .slice a4 n c4] := range_same hHeld (hs7.block g hgl7 (fun h => h))
      have hb8 := hb7.step hs7 (fun h => h)
      have hbW8 := hbW7.step hs7 (fun h => h)
      have hst8 := hst7.trans (hs7.only X)
      have hbx8 : W6.heap[w.heap.size]? = _ := (hs7.block w.heap.size hwl7 (fun h => h)).trans hbx7
      have hp6 := hn6.bytes
      have hne8 : o6 g = (X, 0) := (hs7.own g hgl7).trans hgo4
      clear hpage hn6 hs7 hb7 hbW7 hst7 hbx7 hsh7
      go_wp2_with fail
      refine ⟨fun _ => hS6, ?_⟩
      refine wpAnyN_one (i := 4) rfl (by kernel_rfl) ?_
      go_wp2_with fail
      refine (bequal_any hp6 hbW8).mono ?_; rintro e w' ⟨rfl, rfl⟩
      go_wp2_with fail
      refine ⟨fun _ => hS6, ?_⟩
      obtain ⟨hsr9, hsh9⟩ := run_store_agg (P := Try.prog) (ty := 139) (vs := [.int .u64 (A.toNat : Int), .int .i64 (B : Int), .int .i64 (C : Int), .slice a4 n c4]) hbx8 rfl (by kernel_rfl) rfl
      have hst9 := hst8.setCells w.heap.size 0 [.int .u64 (A.toNat : Int), .int .i64 (B : Int), .int .i64 (C : Int), .slice a4 n c4] (.inr (Nat.le_refl _))
      have hS9 : (W6.setCells w.heap.size 0 [.int .u64 (A.toNat : Int), .int .i64 (B : Int), .int .i64 (C : Int), .slice a4 n c4]).rangeAt g 0 [.int .u64 (A.toNat : Int), .int .i64 (B : Int), .int .i64 (C : Int), .slice a4 n c4] :=
        range_same hS6 (heap_setCells_other _ _ _ _ _ (by omega))
      refine wpAnyN_one (i := 5) rfl (by kernel_rfl) ?_
      refine lit_store hsr9 ?_
      refine wpList_nil ?_
      refine ⟨fun _ => hS9, ?_⟩
      have hb9 : Bytes (W6.setCells w.heap.size 0 [.int .u64 (A.toNat : Int), .int .i64 (B : Int), .int .i64 (C : Int), .slice a4 n c4]) (fun k => if k = w.heap.size then (0, 0) else o6 k) (.slice a4 n c4) pl := by
        rcases hb8 with h | ⟨b', off', cap', hv, h1, h2, h3, h4, h5⟩
        · exact .inl h
        · have hbne : b' ≠ w.heap.size := hbne' b' off' (by simp only [Value.slice.injEq] at hv; exact hv.1)
          refine .inr ⟨b', off', cap', hv, h1, h2, by simp only [if_neg hbne]; exact h3, by rw [size_setCells]; exact h4, range_same h5 (heap_setCells_other _ _ _ _ _ hbne)⟩
      refine wpAnyN_one (i := 6) rfl (by kernel_rfl) ?_
      go_wp2_with fail
      refine ⟨fun _ => hS9, ?_⟩
      refine wpAnyN_done (by kernel_rfl) ?_ _
      go_wp2_with fail
      refine bodyPost_ret (results_row_tmp rfl _ _ w.heap.size 139 _ (0, 0) _ rfl hsh9 Try.underlying139 rfl (by kernel_rfl)) rfl ?_
      rw [hEH.out]
      have hst10 := hst9.nobody hXf
      refine ⟨_, (fun k => if k = w.heap.size then (0, 0) else o6 k), rfl, ⟨hst10.os, hst10.tape, hst10.output, hst10.size, fun k hk => by simp only [if_neg (show k ≠ w.heap.size by omega)]; exact hst10.own k hk, hst10.block⟩, .slice a4 n c4, rfl, hb9⟩
end Go.Proofs.YtfgggkheadfiaaaR
