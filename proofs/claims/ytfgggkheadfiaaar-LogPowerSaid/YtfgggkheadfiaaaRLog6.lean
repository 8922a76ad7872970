/- Contract: the page of a leaf. -/
import Derived.Test.YtfgggkheadfiaaaRLog5
namespace Go.Proofs.YtfgggkheadfiaaaR
open Go Go.RowKit
attribute [local go_sem ↓] Go.wp_at_zero Go.wp_at_succ

theorem len4 {α : Type} {l : List α} (h : l.length = 4) : ∃ a b c d, l = [a, b, c, d] := by
  match l, h with
  | [a, b, c, d], _ => exact ⟨a, b, c, d, rfl⟩
theorem bytes_new (w : World) (o : Own) (l : List UInt8) (hl : l.length ≤ 1000000) : Bytes (w.alloc (.cells (bvs l).toArray 5)) (tagAt o w.heap.size (0, 0)) (.slice (some ⟨w.heap.size, 0, none⟩) l.length l.length) l :=
  .inr ⟨w.heap.size, 0, l.length, rfl, by simp, by simp only [maxLen]; omega, by rw [tagAt_same], by simp, range_whole (heap_alloc_new w _)⟩
theorem slc_new (w : World) (o : Own) (e : TypeId) (vs : List Value) (hl : vs.length ≤ 1000000) : Slc (w.alloc (.cells vs.toArray e)) (tagAt o w.heap.size (0, 0)) (.slice (some ⟨w.heap.size, 0, none⟩) vs.length vs.length) vs.length vs :=
  .inr ⟨w.heap.size, 0, vs.length, rfl, by simp, by simp only [maxLen]; omega, by rw [tagAt_same], by simp, range_whole (heap_alloc_new w _)⟩

theorem RowsB.nil (w : World) (o : Own) : RowsB w o [] [] := ⟨rfl, fun i v l hv _ => by simp at hv⟩
theorem RowsB.cons {w : World} {o : Own} {v : Value} {l : List UInt8} {vs : List Value} {ls : List (List UInt8)} (h : Bytes w o v l) (r : RowsB w o vs ls) : RowsB w o (v :: vs) (l :: ls) :=
  ⟨by simp [r.1], fun i v' l' hv hl => by
    cases i with
    | zero => simp only [List.getElem?_cons_zero, Option.some.injEq] at hv hl; subst hv; subst hl; exact h
    | succ i => exact r.2 i v' l' (by simpa using hv) (by simpa using hl)⟩
set_option maxRecDepth 100000 in
set_option maxHeartbeats 3200000 in
theorem page_any {w : World} {o : Own} {bv : Value} (x : LeafM) (hb : Bytes w o bv x.bytes) (hl : x.bytes.length ≤ 480) (ha : x.at' ≤ 1000000) (hf : x.of' ≤ 1000000) :
    Calls Try.prog 87 #[.agg #[.int .u64 (x.stamp.toNat : Int), .int .i64 (x.at' : Int), .int .i64 (x.of' : Int), bv]] w (Ret Nobody w o fun v w' o' => NewB w w' o' v x.page) := by
  have hs0 : Step Nobody w o (w.alloc (.cells #[.int .u64 (x.stamp.toNat : Int), .int .i64 (x.at' : Int), .int .i64 (x.of' : Int), bv] 139)) (tagAt o w.heap.size (0, 0)) := (Step.refl _ w o).alloc _ _
  have hbx : (w.alloc (.cells #[.int .u64 (x.stamp.toNat : Int), .int .i64 (x.at' : Int), .int .i64 (x.of' : Int), bv] 139)).heap[w.heap.size]? = some (.cells #[.int .u64 (x.stamp.toNat : Int), .int .i64 (x.at' : Int), .int .i64 (x.of' : Int), bv] 139 (0, 0)) := heap_alloc_new w _
  have hb0 := hb.step hs0 (fun h => h)
  obtain ⟨ba, bc, rfl⟩ := slc_form hb
  have hlt := lt_of_block hbx
  obtain ⟨st, at', of', bs⟩ := x
  simp only at hl ha hf hs0 hbx hb0 hlt ⊢
  clear hb
  generalize hW0 : w.alloc (.cells #[.int .u64 (st.toNat : Int), .int .i64 (at' : Int), .int .i64 (of' : Int), .slice ba bs.length bc] 139) = W0 at *
  have c0 := cell_of_block hbx 0
  have c1 := cell_of_block hbx 1
  have c2 := cell_of_block hbx 2
  have c3 := cell_of_block hbx 3
  simp only [List.getElem?_cons_succ, List.getElem?_cons_zero] at c0 c1 c2 c3
  have hWs : W0.heap.size = w.heap.size + 1 := by rw [← hW0]; simp
  have hu := wuint_any (Bytes.nil W0 (tagAt o w.heap.size (0, 0))) (by simp) st
  have hW0H := hidden hW0
  clear hW0
  go_enter Try.func87, Try.ntmps87
  go_wp2_with fail
  rw [hW0H.out]
  refine hu.mono ?_; rintro e W1 ⟨v1, o1, rfl, hs1, hn1⟩
  have hst := hn1.bytes
  rw [List.nil_append] at hst
  have hst1 := hs0.trans hs1
  have e1 := hs1.block w.heap.size hlt (fun h => h)
  have d1 : W1.cell? ⟨w.heap.size, 1, none⟩ = _ := (World.cell?_of_block (a := ⟨w.heap.size, 1, none⟩) e1).trans c1
  have d2 : W1.cell? ⟨w.heap.size, 2, none⟩ = _ := (World.cell?_of_block (a := ⟨w.heap.size, 2, none⟩) e1).trans c2
  have d3 : W1.cell? ⟨w.heap.size, 3, none⟩ = _ := (World.cell?_of_block (a := ⟨w.heap.size, 3, none⟩) e1).trans c3
  have hlt1 : w.heap.size < W1.heap.size := Nat.lt_of_lt_of_le hlt hs1.size
  have hb1 := hb0.step hs1 (fun h => h)
  obtain ⟨sa, sc, rfl⟩ := slc_form hst
  rw [length_be] at hst
  clear hu hn1 hb0 c0 c1 c2 c3 hbx e1
  go_wp2_with fail
  refine wp_region_need (fun w' => w'.cell? ⟨w.heap.size, 1, none⟩ = some (.int .i64 (at' : Int)) ∧ w'.cell? ⟨w.heap.size, 2, none⟩ = some (.int .i64 (of' : Int)) ∧ w'.cell? ⟨w.heap.size, 3, none⟩ = some (.slice ba bs.length bc)) (fun _ => true) (by kernel_rfl) ⟨d1, d2, d3⟩ (fun hHeld => ?_)
  refine wpAnyN_take (i := 0) (v := ?_) rfl (by kernel_rfl) (by kernel_rfl) (by kernel_rfl) (by kernel_rfl) (fun _ _ _ h => h) (Or.inl ⟨by rfl, ?_⟩) (by assumption) ?_
  rotate_left
  · intro w hSw; ((try dsimp only at hSw); go_simp; (try with_reducible rfl))
  simp only [Act.put, List.setIfInBounds_toArray, List.set_cons_zero, List.set_cons_succ]
  refine wpAnyN_take (i := 1) (v := ?_) rfl (by kernel_rfl) (by kernel_rfl) (by kernel_rfl) (by kernel_rfl) (fun _ _ _ h => h) (Or.inl ⟨by rfl, ?_⟩) (by assumption) ?_
  rotate_left
  · intro w hSw; ((try dsimp only at hSw); go_simp; (try with_reducible rfl))
  simp only [Act.put, List.setIfInBounds_toArray, List.set_cons_zero, List.set_cons_succ]
  refine wpAnyN_take (i := 2) (v := ?_) rfl (by kernel_rfl) (by kernel_rfl) (by kernel_rfl) (by kernel_rfl) (fun _ _ _ h => h) (Or.inl ⟨by rfl, ?_⟩) (by assumption) ?_
  rotate_left
  · intro w hSw; ((try dsimp only at hSw); go_simp; (try with_reducible rfl))
  simp only [Act.put, List.setIfInBounds_toArray, List.set_cons_zero, List.set_cons_succ]
  refine wpAnyN_take (i := 4) (v := ?_) rfl (by kernel_rfl) (by kernel_rfl) (by kernel_rfl) (by kernel_rfl) (fun _ _ _ h => h) (Or.inl ⟨by rfl, ?_⟩) (by assumption) ?_
  rotate_left
  · intro w hSw; ((try dsimp only at hSw); go_simp; (try with_reducible rfl))
  simp only [Act.put, List.setIfInBounds_toArray, List.set_cons_zero, List.set_cons_succ]
  refine wpAnyN_take (i := 5) (v := ?_) rfl (by kernel_rfl) (by kernel_rfl) (by kernel_rfl) (by kernel_rfl) (fun _ _ _ h => h) (Or.inl ⟨by rfl, ?_⟩) (by assumption) ?_
  rotate_left
  · intro w hSw; ((try dsimp only at hSw); go_simp; (try with_reducible rfl))
  simp only [Act.put, List.setIfInBounds_toArray, List.set_cons_zero, List.set_cons_succ]
  refine wpAnyN_take (i := 7) (v := ?_) rfl (by kernel_rfl) (by kernel_rfl) (by kernel_rfl) (by kernel_rfl) (fun _ _ _ h => h) (Or.inl ⟨by rfl, ?_⟩) (by assumption) ?_
  rotate_left
  · intro w hSw; ((try dsimp only at hSw); go_simp; (try with_reducible rfl))
  simp only [Act.put, List.setIfInBounds_toArray, List.set_cons_zero, List.set_cons_succ]
  refine wpAnyN_take (i := 8) (v := ?_) rfl (by kernel_rfl) (by kernel_rfl) (by kernel_rfl) (by kernel_rfl) (fun _ _ _ h => h) (Or.inl ⟨by rfl, ?_⟩) (by assumption) ?_
  rotate_left
  · intro w hSw; ((try dsimp only at hSw); go_simp; (try with_reducible rfl))
  simp only [Act.put, List.setIfInBounds_toArray, List.set_cons_zero, List.set_cons_succ]
  refine wpAnyN_take (i := 9) (v := ?_) rfl (by kernel_rfl) (by kernel_rfl) (by kernel_rfl) (by kernel_rfl) (fun _ _ _ h => h) (Or.inl ⟨by rfl, ?_⟩) (by assumption) ?_
  rotate_left
  · intro w hSw; ((try dsimp only at hSw); go_simp; (try with_reducible rfl))
  simp only [Act.put, List.setIfInBounds_toArray, List.set_cons_zero, List.set_cons_succ]
  refine wpAnyN_take (i := 11) (v := ?_) rfl (by kernel_rfl) (by kernel_rfl) (by kernel_rfl) (by kernel_rfl) (fun _ _ _ h => h) (Or.inl ⟨by rfl, ?_⟩) (by assumption) ?_
  rotate_left
  · intro w hSw; ((try dsimp only at hSw); go_simp; (try with_reducible rfl))
  simp only [Act.put, List.setIfInBounds_toArray, List.set_cons_zero, List.set_cons_succ]
  refine wpAnyN_take (i := 12) (v := ?_) rfl (by kernel_rfl) (by kernel_rfl) (by kernel_rfl) (by kernel_rfl) (fun _ _ _ h => h) (Or.inl ⟨by rfl, ?_⟩) (by assumption) ?_
  rotate_left
  · intro w hSw; ((try dsimp only at hSw); go_simp; (try with_reducible rfl))
  simp only [Act.put, List.setIfInBounds_toArray, List.set_cons_zero, List.set_cons_succ]
  refine wpAnyN_take (i := 13) (v := ?_) rfl (by kernel_rfl) (by kernel_rfl) (by kernel_rfl) (by kernel_rfl) (fun _ _ _ h => h) (Or.inl ⟨by rfl, ?_⟩) (by assumption) ?_
  rotate_left
  · intro w hSw; ((try dsimp only at hSw); go_simp; (try with_reducible rfl))
  simp only [Act.put, List.setIfInBounds_toArray, List.set_cons_zero, List.set_cons_succ]
  refine wpAnyN_take (i := 14) (v := ?_) rfl (by kernel_rfl) (by kernel_rfl) (by kernel_rfl) (by kernel_rfl) (fun _ _ _ h => h) (Or.inl ⟨by rfl, ?_⟩) (by assumption) ?_
  rotate_left
  · intro w hSw; ((try dsimp only at hSw); go_simp; (try with_reducible rfl))
  simp only [Act.put, List.setIfInBounds_toArray, List.set_cons_zero, List.set_cons_succ]
  refine wpAnyN_take (i := 15) (v := ?_) rfl (by kernel_rfl) (by kernel_rfl) (by kernel_rfl) (by kernel_rfl) (fun _ _ _ h => h) (Or.inl ⟨by rfl, ?_⟩) (by assumption) ?_
  rotate_left
  · intro w hSw; ((try dsimp only at hSw); go_simp; (try with_reducible rfl))
  simp only [Act.put, List.setIfInBounds_toArray, List.set_cons_zero, List.set_cons_succ]
  refine wpAnyN_take (i := 16) (v := ?_) rfl (by kernel_rfl) (by kernel_rfl) (by kernel_rfl) (by kernel_rfl) (fun _ _ _ h => h) (Or.inl ⟨by rfl, ?_⟩) (by assumption) ?_
  rotate_left
  · intro w hSw; ((try dsimp only at hSw); go_simp; (try with_reducible rfl))
  simp only [Act.put, List.setIfInBounds_toArray, List.set_cons_zero, List.set_cons_succ]
  have hsub : IntKind.i64.wrap ((480 : Int) - (bs.length : Int)) = ((480 - bs.length : Nat) : Int) := by simp [IntKind.wrap, IntKind.bits, IntKind.signed]; omega
  rw [hsub]
  clear hsub
  obtain ⟨z, hz⟩ : ∃ z, 480 - bs.length = z := ⟨_, rfl⟩
  rw [hz]
  have hz1 : z ≤ 480 := by omega
  have hzH := hidden hz
  clear hz
  have hdr : Step Nobody W1 o1 W1.drew o1 := (Step.refl _ _ _).drew
  have keep : ∀ {wa wb : World} {oa ob : Own}, Step Nobody wa oa wb ob → w.heap.size < wa.heap.size → (wa.cell? ⟨w.heap.size, 1, none⟩ = some (.int .i64 (at' : Int)) ∧ wa.cell? ⟨w.heap.size, 2, none⟩ = some (.int .i64 (of' : Int)) ∧ wa.cell? ⟨w.heap.size, 3, none⟩ = some (.slice ba bs.length bc)) →
      (wb.cell? ⟨w.heap.size, 1, none⟩ = some (.int .i64 (at' : Int)) ∧ wb.cell? ⟨w.heap.size, 2, none⟩ = some (.int .i64 (of' : Int)) ∧ wb.cell? ⟨w.heap.size, 3, none⟩ = some (.slice ba bs.length bc)) := fun hs hl h => by
    have e := hs.block w.heap.size hl (fun h => h)
    exact ⟨(World.cell?_of_block (a := ⟨w.heap.size, 1, none⟩) e).trans h.1, (World.cell?_of_block (a := ⟨w.heap.size, 2, none⟩) e).trans h.2.1, (World.cell?_of_block (a := ⟨w.heap.size, 3, none⟩) e).trans h.2.2⟩
  refine wpAnyN_midl (fuel := 3) [3, 6, 10, 17] [11, 14, 18, 25] [_, _, _, _] Nobody (fun s w' o' => Step Nobody W1.drew o1 w' o' ∧ (w'.cell? ⟨w.heap.size, 1, none⟩ = some (.int .i64 (at' : Int)) ∧ w'.cell? ⟨w.heap.size, 2, none⟩ = some (.int .i64 (of' : Int)) ∧ w'.cell? ⟨w.heap.size, 3, none⟩ = some (.slice ba bs.length bc)))
    (fun k u w' o' => Bytes w' o' u (([be 2 (BitVec.ofNat 64 at'), be 2 (BitVec.ofNat 64 of'), be 4 (BitVec.ofNat 64 bs.length), List.replicate z 0] : List (List UInt8)).getD k [])) rfl (by kernel_rfl)
    (fun k u w o w' o' h hs => h.step hs (fun h => h)) [undef, undef, undef, undef] rfl rfl ⟨Step.refl _ _ _, hHeld⟩ ⟨?_, ?_, ?_, ?_, trivial⟩ ?_
  · intro s us w2 o2 hsl hul hsk hdep hJ hR
    obtain ⟨u0, u1, u2, u3, rfl⟩ := len4 hul
    simp only [Act.puts, Act.put, List.setIfInBounds_toArray, List.set_cons_zero, List.set_cons_succ]
    go_wp2_with fail
    refine (small_any at' 2 ha (by omega) (by omega) w2 o2).mono ?_; rintro e w3 ⟨v3, o3, rfl, hs3, hb3⟩
    have hlt2 := Nat.lt_of_lt_of_le hlt1 hJ.1.size
    have hS3 := keep hs3 hlt2 hJ.2
    go_wp2_with fail
    exact ⟨v3, o3, rfl, hs3, ⟨hJ.1.trans hs3, hS3⟩, hb3, fun _ => hS3⟩
  · intro s us w2 o2 hsl hul hsk hdep hJ hR
    obtain ⟨u0, u1, u2, u3, rfl⟩ := len4 hul
    simp only [Act.puts, Act.put, List.setIfInBounds_toArray, List.set_cons_zero, List.set_cons_succ]
    go_wp2_with fail
    refine (small_any of' 2 hf (by omega) (by omega) w2 o2).mono ?_; rintro e w3 ⟨v3, o3, rfl, hs3, hb3⟩
    have hlt2 := Nat.lt_of_lt_of_le hlt1 hJ.1.size
    have hS3 := keep hs3 hlt2 hJ.2
    go_wp2_with fail
    exact ⟨v3, o3, rfl, hs3, ⟨hJ.1.trans hs3, hS3⟩, hb3, fun _ => hS3⟩
  · intro s us w2 o2 hsl hul hsk hdep hJ hR
    obtain ⟨u0, u1, u2, u3, rfl⟩ := len4 hul
    simp only [Act.puts, Act.put, List.setIfInBounds_toArray, List.set_cons_zero, List.set_cons_succ]
    go_wp2_with fail
    refine (small_any bs.length 4 (by omega) (by omega) (by omega) w2 o2).mono ?_; rintro e w3 ⟨v3, o3, rfl, hs3, hb3⟩
    have hlt2 := Nat.lt_of_lt_of_le hlt1 hJ.1.size
    have hS3 := keep hs3 hlt2 hJ.2
    go_wp2_with fail
    exact ⟨v3, o3, rfl, hs3, ⟨hJ.1.trans hs3, hS3⟩, hb3, fun _ => hS3⟩
  · intro s us w2 o2 hsl hul hsk hdep hJ hR
    obtain ⟨u0, u1, u2, u3, rfl⟩ := len4 hul
    simp only [Act.puts, Act.put, List.setIfInBounds_toArray, List.set_cons_zero, List.set_cons_succ]
    have hmk := run_make_zero (P := Try.prog) w2 28 5 _ 1 1 Try.underlying28 inf5 rfl z (by omega) (by omega) .i64 .i64
    rw [zeros_bvs] at hmk
    have hs3 : Step Nobody w2 o2 _ _ := (Step.refl _ w2 o2).alloc (.cells (bvs (List.replicate z 0)).toArray 5) (0, 0)
    have hb3 := bytes_zeros w2 o2 z (by omega)
    have hlt2 := Nat.lt_of_lt_of_le hlt1 hJ.1.size
    have hS3 := keep hs3 hlt2 hJ.2
    refine lit_makeSlice hmk ?_
    refine wpList_nil ?_
    exact ⟨_, _, rfl, hs3, ⟨hJ.1.trans hs3, hS3⟩, hb3, fun _ => hS3⟩
  intro us W2 o2 hul hJ hR
  obtain ⟨u0, u1, u2, u3, rfl⟩ := len4 hul
  simp only [Act.puts, Act.put, List.setIfInBounds_toArray, List.set_cons_zero, List.set_cons_succ]
  have r0 : Bytes W2 o2 u0 (be 2 (BitVec.ofNat 64 at')) := hR 0 (by simp)
  have r1 : Bytes W2 o2 u1 (be 2 (BitVec.ofNat 64 of')) := hR 1 (by simp)
  have r2 : Bytes W2 o2 u2 (be 4 (BitVec.ofNat 64 bs.length)) := hR 2 (by simp)
  have r3 : Bytes W2 o2 u3 (List.replicate z 0) := hR 3 (by simp)
  have hst2 := (hst1.trans hdr).trans hJ.1
  have hst2' := hJ.1
  have hS2 := hJ.2
  have hb2 := (hb1.step hdr (fun h => h)).step hJ.1 (fun h => h)
  have hs8 := (hst.step hdr (fun h => h)).step hJ.1 (fun h => h)
  clear hR hJ hst hb1 hst1
  obtain ⟨a0, c0, rfl⟩ := slc_form r0
  obtain ⟨a1, c1, rfl⟩ := slc_form r1
  obtain ⟨a2, c2, rfl⟩ := slc_form r2
  obtain ⟨a3, c3, rfl⟩ := slc_form r3
  simp only [length_be, List.length_replicate] at r0 r1 r2 r3 ⊢
  have hvs := slc_new W2 o2 28 [.slice sa 8 sc, .slice a0 2 c0, .slice a1 2 c1, .slice a2 4 c2, .slice ba bs.length bc, .slice a3 z c3] (by simp)
  have hsN : Step Nobody W2 o2 _ _ := (Step.refl _ W2 o2).alloc (.cells #[.slice sa 8 sc, .slice a0 2 c0, .slice a1 2 c1, .slice a2 4 c2, .slice ba bs.length bc, .slice a3 z c3] 28) (0, 0)
  have hlt2 := Nat.lt_of_lt_of_le (Nat.lt_of_lt_of_le hlt1 (Nat.le_refl _)) hst2'.size
  have hS4 := keep hsN hlt2 hS2
  have hrow := ((((((RowsB.nil W2 o2).cons r3).cons hb2).cons r2).cons r1).cons r0).cons hs8
  have hrow2 := hrow.step hsN (fun h => h)
  have hst3 := hst2.trans hsN
  have hs82 := hs8.step hsN (fun h => h)
  have hfl : [be 8 st, be 2 (BitVec.ofNat 64 at'), be 2 (BitVec.ofNat 64 of'), be 4 (BitVec.ofNat 64 bs.length), bs, List.replicate z 0].flatten = LeafM.said ⟨st, at', of', bs⟩ := by
    simp only [LeafM.said, List.flatten_cons, List.flatten_nil, List.append_nil, List.append_assoc, hzH.out]
  have hsl : (LeafM.said ⟨st, at', of', bs⟩).length = 496 := LeafM.length_said hl
  have hcc := concat_any hvs hrow2 (by rw [hfl, hsl]; omega) (by simp)
  rw [hfl] at hcc
  have hpg : LeafM.page ⟨st, at', of', bs⟩ = [LeafM.said ⟨st, at', of', bs⟩, be 8 (rev64 (crcSum (LeafM.said ⟨st, at', of', bs⟩))), be 8 st].flatten := by
    simp only [LeafM.page, be_rev, List.flatten_cons, List.flatten_nil, List.append_nil, List.append_assoc]
  obtain ⟨sd, hsdE⟩ : ∃ sd, LeafM.said ⟨st, at', of', bs⟩ = sd := ⟨_, rfl⟩
  rw [hsdE] at hpg hcc hsl
  have hpgH := hidden hpg
  clear hfl hpg hrow r0 r1 r2 r3 hs8 hb2 hst2 hsN hrow2 hvs hsdE
  refine wpAnyN_one (i := 18) rfl (by kernel_rfl) ?_
  go_wp2_with fail
  refine ⟨fun _ => hS4, ?_⟩
  refine wpAnyN_one (i := 19) rfl (by kernel_rfl) ?_
  go_wp2_with fail
  refine hcc.mono ?_; rintro e W4 ⟨v4, o4, rfl, hs4, hn4⟩
  have hS5 := keep hs4 (Nat.lt_of_lt_of_le hlt2 (by simp)) hS4
  have hst4 := hst3.trans hs4
  have hs83 := hs82.step hs4 (fun h => h)
  have hsd := hn4.bytes
  go_wp2_with fail
  refine ⟨fun _ => hS5, ?_⟩
  refine wpAnyN_one (i := 20) rfl (by kernel_rfl) ?_
  go_wp2_with fail
  refine ⟨fun _ => hS5, ?_⟩
  refine wpAnyN_done (by kernel_rfl) ?_ _
  obtain ⟨da, dc, rfl⟩ := slc_form hsd
  have hcrc := crc_any hsd (by omega)
  clear hcc hn4 hS5 hS4 keep hs82 hst3
  have hslH := hidden hsl
  rw [hsl] at hsd hcrc ⊢
  clear hsl
  go_wp2_with fail
  refine hcrc.mono ?_; rintro e w' ⟨rfl, rfl⟩
  go_wp2_with fail
  refine (rev64_any _ _).mono ?_; rintro e w' ⟨rfl, rfl⟩
  go_wp2_with fail
  refine (wuint_any (Bytes.nil W4 o4) (by simp) _).mono ?_; rintro e W5 ⟨v5, o5, rfl, hs5, hn5⟩
  have hb5 := hn5.bytes
  rw [List.nil_append] at hb5
  obtain ⟨fa, fc, rfl⟩ := slc_form hb5
  rw [length_be] at hb5 ⊢
  have hst5 := hst4.trans hs5
  have hsd5 := hsd.step hs5 (fun h => h)
  have hs85 := hs83.step hs5 (fun h => h)
  have hvs := slc_new W5 o5 28 [.slice da 496 dc, .slice fa 8 fc, .slice sa 8 sc] (by simp)
  have hsN : Step Nobody W5 o5 _ _ := (Step.refl _ W5 o5).alloc (.cells #[.slice da 496 dc, .slice fa 8 fc, .slice sa 8 sc] 28) (0, 0)
  have hrow := (((RowsB.nil W5 o5).cons hs85).cons hb5).cons hsd5
  have hrow2 := hrow.step hsN (fun h => h)
  have hst6 := hst5.trans hsN
  have hcc := concat_any hvs hrow2 (by simp [length_be, hslH.out]) (by simp)
  clear hrow hrow2 hvs hsN hst5 hs85 hsd5 hb5 hn5
  go_wp2_with fail
  refine hcc.mono ?_; rintro e W6 ⟨v6, o6, rfl, hs6, hn6⟩
  go_wp2_with fail
  go_ret
  have hst7 := hst6.trans hs6
  rw [hpgH.out]
  refine ⟨_, (fun k => if k < w.heap.size then o k else (0, 0)), rfl, ⟨hst7.os, hst7.tape, hst7.output, hst7.size, fun k hk => if_pos hk, fun k hk h => hst7.block k hk h⟩, ?_⟩
  refine ⟨⟨hn6.1.1, ?_⟩, ?_⟩
  · rcases hn6.1.2 with h | ⟨g, cap, cur, h1, h2, h3⟩
    · exact .inl h
    · exact .inr ⟨g, cap, cur, h1, Nat.le_trans hst6.size h2, h3⟩
  · intro k hk
    exact if_neg (by have h1 := (hn6.1.lt k hk).1; have h2 := hst6.size; omega)
end Go.Proofs.YtfgggkheadfiaaaR
