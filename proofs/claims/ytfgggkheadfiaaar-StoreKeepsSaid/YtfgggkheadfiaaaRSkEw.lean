/- Contract of the laws of layer 9: after. -/
import Derived.Test.YtfgggkheadfiaaaRSk2
import Derived.Test.YtfgggkheadfiaaaRSk11
namespace Go.Proofs.YtfgggkheadfiaaaR
open Go Go.RowKit
attribute [local go_sem ↓] Go.wp_at_zero Go.wp_at_succ
theorem rtext9_str {w : World} {o : Own} {base : Nat} {p c : BitVec 64} {v : Value} {ls : List LineM} {T : List UInt8} (h : Lines w o base v ls) (hn : ls.length ≤ 60000) (hl : (ls.flatMap lineText).length ≤ 1300000) (hT : textM p c ls = T) :
    Calls Try.prog 59 #[.int .u64 (p.toNat : Int), .int .u64 (c.toNat : Int), v] w (Ret Nobody w o fun r _ _ => r = .string ⟨T.toArray⟩) := by
  have := rtext9_any (p := p) (c := c) h hn hl
  rw [hT] at this; exact this
theorem buildNone (w : World) : (Instr.buildSlice 93 0 #[]).run Try.prog w = .ok (.slice (some ⟨w.heap.size, 0, none⟩) 0 0) (w.alloc (.cells #[] 113)) := by kernel_rfl
theorem LRow.empty (w : World) (o : Own) (t : Nat × Nat) : LRow (w.alloc (.cells #[] 113)) (tagAt o w.heap.size t) 0 t (.slice (some ⟨w.heap.size, 0, none⟩) 0 0) [] :=
  ⟨[], ⟨rfl, .inr ⟨w.heap.size, 0, #[], rfl, Nat.zero_le _, heap_alloc_new w _, Nat.le_refl _, by simp [maxLen], by simp, by simp⟩⟩, fun g hg => by simp only [Value.ownBlock, Option.some.injEq] at hg; subst hg; exact tagAt_same _ _ _, LnC.nil _ _, by simp⟩
section
variable {w : World} {o : Own} {p c : BitVec 64} {lv lv2 : Value} {ls : List LineM}
set_option maxRecDepth 100000 in
set_option maxHeartbeats 6400000 in
theorem after_any (was : List UInt8) {lb : Nat} (hl : Lines w o lb lv ls) (a : ActM) (hk5 : a.k < 256) (hl2 : Lines w o 0 lv2 a.ls) (h0 : (KeptM.next a ⟨p, c, ls⟩).2 = 0) (h4 : a.k % 5 ≠ 4) (hok : KOk (KeptM.next a ⟨p, c, ls⟩).1) {T : List UInt8}
    (hT : textM (KeptM.next a ⟨p, c, ls⟩).1.promised (KeptM.next a ⟨p, c, ls⟩).1.current (KeptM.next a ⟨p, c, ls⟩).1.lines = T) :
    Calls Try.prog 66 #[.string ⟨was.toArray⟩, keptV p c lv, actV a lv2] w (Ret Nobody w o fun v _ _ => v = .string ⟨T.toArray⟩) := by
  obtain ⟨la, lc, rfl⟩ := hl.form
  obtain ⟨N, hN⟩ : ∃ N, ls.length = N := ⟨_, rfl⟩
  obtain ⟨la2, lc2, rfl⟩ := hl2.form
  obtain ⟨N2, hN2⟩ : ∃ N2, a.ls.length = N2 := ⟨_, rfl⟩
  have htx := hok.text
  have htn := hok.n
  have hl0 := hl.low (Nat.zero_le _)
  unfold keptV actV
  rw [hN, hN2]
  have s1 := (Step.refl Nobody w o).alloc (.cells #[.int .u64 (p.toNat : Int), .int .u64 (c.toNat : Int), .slice la N lc] 108) (0, 0)
  have b1 : (w.alloc (.cells #[.int .u64 (p.toNat : Int), .int .u64 (c.toNat : Int), .slice la N lc] 108)).heap[w.heap.size]? = some (.cells [.int .u64 (p.toNat : Int), .int .u64 (c.toNat : Int), .slice la N lc].toArray 108 (0, 0)) := heap_alloc_new w _
  have z1 : (w.alloc (.cells #[.int .u64 (p.toNat : Int), .int .u64 (c.toNat : Int), .slice la N lc] 108)).heap.size = w.heap.size + 1 := by simp
  obtain ⟨W1, hW1⟩ : ∃ W1, w.alloc (.cells #[.int .u64 (p.toNat : Int), .int .u64 (c.toNat : Int), .slice la N lc] 108) = W1 := ⟨_, rfl⟩
  rw [hW1] at s1 b1 z1
  generalize tagAt o w.heap.size (0, 0) = o1 at s1
  have s2 := s1.alloc (.cells #[.int .u8 (a.k : Int), .int .u64 (a.e.toNat : Int), .slice la2 N2 lc2] 99) (0, 0)
  have b2 : (W1.alloc (.cells #[.int .u8 (a.k : Int), .int .u64 (a.e.toNat : Int), .slice la2 N2 lc2] 99)).heap[W1.heap.size]? = some (.cells [.int .u8 (a.k : Int), .int .u64 (a.e.toNat : Int), .slice la2 N2 lc2].toArray 99 (0, 0)) := heap_alloc_new W1 _
  have b12 := (Below.heap_alloc W1 (.cells #[.int .u8 (a.k : Int), .int .u64 (a.e.toNat : Int), .slice la2 N2 lc2] 99) w.heap.size (by omega)).trans b1
  obtain ⟨W2, hW2⟩ : ∃ W2, W1.alloc (.cells #[.int .u8 (a.k : Int), .int .u64 (a.e.toNat : Int), .slice la2 N2 lc2] 99) = W2 := ⟨_, rfl⟩
  rw [hW2] at s2 b2 b12
  generalize tagAt o1 W1.heap.size (0, 0) = o2 at s2
  rw [z1] at b2
  have k0 := cell_of_block b12 0
  have k1 := cell_of_block b12 1
  have k2 := cell_of_block b12 2
  have c0 := cell_of_block b2 0
  have c1 := cell_of_block b2 1
  have c2 := cell_of_block b2 2
  simp only [List.getElem?_cons_zero, List.getElem?_cons_succ] at c0 c1 c2 k0 k1 k2
  have hla := hl0.step s2 (fun h => h)
  have hlb := hl2.step s2 (fun h => h)
  have hst := hidden s2
  have hWW : (w.alloc (.cells #[.int .u64 (p.toNat : Int), .int .u64 (c.toNat : Int), .slice la N lc] 108)).alloc (.cells #[.int .u8 (a.k : Int), .int .u64 (a.e.toNat : Int), .slice la2 N2 lc2] 99) = W2 := by rw [hW1, hW2]
  have hbl := hidden (And.intro b12 b2)
  have hNH := hidden (And.intro hN hN2)
  have hWWH := hidden hWW
  clear s1 b1 z1 hW1 s2 b2 b12 hW2 hl hl2 hl0 hWW hN hN2
  unfold KeptM.next at h0 hT htx htn
  obtain ⟨kk, hkk⟩ : ∃ kk, a.k = kk := ⟨_, rfl⟩
  rw [hkk] at h0 h4 hT htx htn c0 hk5 hWWH ⊢
  clear hkk hok
  by_cases h5 : kk % 5 = 0
  · have hkI : (kk : Int) % 5 = 0 := by omega
    simp only [h5, if_true] at h0 hT htx htn
    unfold KeptM.promiseD at h0 hT htx htn
    by_cases hp : KeptM.promiseOk ⟨p, c, ls⟩ a.e = true
    · simp only [hp, if_true] at hT htx htn
      have hc := hidden (rtext9_str (p := a.e) (c := c) hla (by omega) htx hT)
      rw [hNH.out.1] at hc
      clear h0 hp h5 h4 hT htx htn
      go_enter Try.func66, Try.ntmps66
      go_wp2_with fail
      rw [hWWH.out]
      go_wp2_with fail
      refine hc.out.mono ?_; rintro e1 w4 ⟨v4, o4, rfl, hs4, rfl⟩
      go_wp2_with fail
      go_ret
      exact ⟨_, o4, rfl, hst.out.trans hs4, rfl⟩
    · simp only [hp] at h0
      exact absurd h0 (by simp)
  · simp only [h5, if_false] at h0 hT htx htn
    by_cases h6 : kk % 5 = 1
    · have hkI : (kk : Int) % 5 = 1 := by omega
      simp only [h6, if_true] at h0 hT htx htn
      unfold KeptM.adoptD at h0 hT htx htn
      by_cases hp : KeptM.adoptOk ⟨p, c, ls⟩ a.e a.ls = true
      · simp only [hp, if_true] at hT htx htn
        have hc := hidden (rtext9_str (p := a.e) (c := a.e) hlb (by omega) htx hT)
        rw [hNH.out.2] at hc
        clear h0 hp h5 h4 h6 hT htx htn
        go_enter Try.func66, Try.ntmps66
        go_wp2_with fail
        rw [hWWH.out]
        go_wp2_with fail
        refine hc.out.mono ?_; rintro e1 w4 ⟨v4, o4, rfl, hs4, rfl⟩
        go_wp2_with fail
        go_ret
        exact ⟨_, o4, rfl, hst.out.trans hs4, rfl⟩
      · simp only [hp] at h0
        exact absurd h0 (by simp)
    · simp only [h6, h4, if_false] at h0 hT htx htn
      unfold KeptM.appendD at h0 hT htx htn
      by_cases hp : KeptM.appendOk ⟨p, c, ls⟩ a.ls = true
      · simp only [hp, if_true] at hT htx htn
        have h23 : kk % 5 = 2 ∨ kk % 5 = 3 := by omega
        have hTH := hidden (And.intro hT (And.intro htx htn))
        obtain ⟨X, hX1, hXf⟩ := fresh_tag o2 W2.heap.size 1
        have hX0 : X ≠ 0 := by omega
        have nX0 : ¬ Only X 0 := fun h => hX0 h.symm
        have hsum : ls.length + a.ls.length ≤ 256 := by rw [List.length_append] at htn; exact htn
        -- the rows
        have sD := (Step.refl Nobody W2 o2).drew
        have hb0 := hidden (buildNone W2.drew)
        have s3 := sD.alloc (.cells #[] 113) (X, 0)
        have hr0 := LRow.empty W2.drew o2 (X, 0)
        obtain ⟨W3, hW3⟩ : ∃ W3, W2.drew.alloc (.cells #[] 113) = W3 := ⟨_, rfl⟩
        obtain ⟨o3, ho3⟩ : ∃ o3, tagAt o2 W2.drew.heap.size (X, 0) = o3 := ⟨_, rfl⟩
        have s3 : Step Nobody W2 o2 (W2.drew.alloc (.cells #[] 113)) (tagAt o2 W2.drew.heap.size (X, 0)) := s3
        rw [hW3] at hb0 s3 hr0
        rw [ho3] at s3 hr0
        obtain ⟨nv1, W4, o4, hr1, hL1, sX1⟩ := hr0.appendLines hX0 (hla.step s3 (fun h => h)) (by simp; omega)
        rw [List.nil_append] at hL1
        obtain ⟨nv2, W5, o5, hr2, hL2, sX2⟩ := hL1.appendLines hX0 ((hlb.step s3 (fun h => h)).step sX1 nX0) (by omega)
        have sT := ((s3.only X).trans (sX1.trans sX2)).untag hXf
        have hlF := hL2.plain
        obtain ⟨na, nc, rfl⟩ := hL2.form
        obtain ⟨N3, hN3⟩ : ∃ N3, (ls ++ a.ls).length = N3 := ⟨_, rfl⟩
        rw [hN3] at hr2 hlF
        obtain ⟨na1, nc1, rfl⟩ := hL1.form
        rw [hNH.out.1] at hr1 hr2
        rw [hNH.out.2] at hr2
        have hc := hidden (rtext9_str (p := p) (c := c) hlF (by omega) htx hT)
        have hr1H := hidden hr1
        have hr2H := hidden hr2
        have hSn := fun (W : World) (T : Nat → Prop) (O O' : Own) (st : ∀ k, k < W2.heap.size → W.heap[k]? = W2.heap[k]?) => (show (W.cell? ⟨w.heap.size, 0, none⟩ = some (.int .u64 (p.toNat : Int)) ∧ W.cell? ⟨w.heap.size, 1, none⟩ = some (.int .u64 (c.toNat : Int)) ∧ W.cell? ⟨w.heap.size, 2, none⟩ = some (.slice la N lc)) ∧ W.cell? ⟨w.heap.size + 1, 2, none⟩ = some (.slice la2 N2 lc2) from by
          have q1 := (st _ (lt_of_block hbl.out.1)).trans hbl.out.1
          have q2 := (st _ (lt_of_block hbl.out.2)).trans hbl.out.2
          exact ⟨⟨cell_of_block q1 0, cell_of_block q1 1, cell_of_block q1 2⟩, cell_of_block q2 2⟩)
        have hS0 := hSn W2.drew Nobody o2 o2 (fun k hk => rfl)
        have hS3 := hidden (hSn W3 Nobody o2 o3 (fun k hk => s3.block k hk (fun h => h)))
        have hS4 := hidden (hSn W4 Nobody o2 o4 (fun k hk => ((s3.only X).trans sX1).block k hk (fun h => hXf k hk h)))
        have hS5 := hidden (hSn W5 Nobody o2 o5 (fun k hk => sT.block k hk (fun h => h)))
        have hTT := hidden sT
        have hS0H := hidden hS0
        have hS6 := hidden (fun (W : World) (O : Own) (st : Step Nobody W5 (untag X o5) W O) => hSn W Nobody o2 O (fun k hk => (sT.trans st).block k hk (fun h => h)))
        clear hSn hT htx htn hp hr1 hr2 hL1 hL2 sX1 sX2 s3 sD hr0 sT hlF hla hlb hW3 ho3 hN3 hS0 hsum h0 h4
        have hkI : (kk : Int) % 5 = 2 ∨ (kk : Int) % 5 = 3 := by omega
        clear h5 h6 h23
        rcases hkI with hkI | hkI
        all_goals
          go_enter Try.func66, Try.ntmps66
          go_wp2_with fail
          rw [hWWH.out]
          go_wp2_with fail
          refine wp_region_need (fun w' => (w'.cell? ⟨w.heap.size, 0, none⟩ = some (.int .u64 (p.toNat : Int)) ∧ w'.cell? ⟨w.heap.size, 1, none⟩ = some (.int .u64 (c.toNat : Int)) ∧ w'.cell? ⟨w.heap.size, 2, none⟩ = some (.slice la N lc)) ∧ w'.cell? ⟨w.heap.size + 1, 2, none⟩ = some (.slice la2 N2 lc2)) (fun _ => true) (by kernel_rfl) hS0H.out (fun hHeld => ?_)
          refine wpAnyN_tk (i := 0) (v := ?_) rfl (by kernel_rfl) (fun _ _ _ h => h) (Or.inl ⟨by rfl, ?_⟩) (by assumption) ?_
          rotate_left
          · intro w hSw; ((try dsimp only at hSw); go_simp; (try with_reducible rfl))
          simp only [Act.put, List.setIfInBounds_toArray, List.set_cons_zero, List.set_cons_succ]
          refine wpAnyN_tk (i := 1) (v := ?_) rfl (by kernel_rfl) (fun _ _ _ h => h) (Or.inl ⟨by rfl, ?_⟩) (by assumption) ?_
          rotate_left
          · intro w hSw; ((try dsimp only at hSw); go_simp; (try with_reducible rfl))
          simp only [Act.put, List.setIfInBounds_toArray, List.set_cons_zero, List.set_cons_succ]
          refine wpAnyN_tk (i := 2) (v := ?_) rfl (by kernel_rfl) (fun _ _ _ h => h) (Or.inl ⟨by rfl, ?_⟩) (by assumption) ?_
          rotate_left
          · intro w hSw; ((try dsimp only at hSw); go_simp; (try with_reducible rfl))
          simp only [Act.put, List.setIfInBounds_toArray, List.set_cons_zero, List.set_cons_succ]
          refine wpAnyN_tk (i := 3) (v := ?_) rfl (by kernel_rfl) (fun _ _ _ h => h) (Or.inl ⟨by rfl, ?_⟩) (by assumption) ?_
          rotate_left
          · intro w hSw; ((try dsimp only at hSw); go_simp; (try with_reducible rfl))
          simp only [Act.put, List.setIfInBounds_toArray, List.set_cons_zero, List.set_cons_succ]
          refine wpAnyN_tk (i := 5) (v := ?_) rfl (by kernel_rfl) (fun _ _ _ h => h) (Or.inl ⟨by rfl, ?_⟩) (by assumption) ?_
          rotate_left
          · intro w hSw; ((try dsimp only at hSw); go_simp; (try with_reducible rfl))
          simp only [Act.put, List.setIfInBounds_toArray, List.set_cons_zero, List.set_cons_succ]
          refine wpAnyN_tk (i := 6) (v := ?_) rfl (by kernel_rfl) (fun _ _ _ h => h) (Or.inl ⟨by rfl, ?_⟩) (by assumption) ?_
          rotate_left
          · intro w hSw; ((try dsimp only at hSw); go_simp; (try with_reducible rfl))
          simp only [Act.put, List.setIfInBounds_toArray, List.set_cons_zero, List.set_cons_succ]
          refine wpAnyN_tk (i := 8) (v := ?_) rfl (by kernel_rfl) (fun _ _ _ h => h) (Or.inl ⟨by rfl, ?_⟩) (by assumption) ?_
          rotate_left
          · intro w hSw; ((try dsimp only at hSw); go_simp; (try with_reducible rfl))
          simp only [Act.put, List.setIfInBounds_toArray, List.set_cons_zero, List.set_cons_succ]
          refine wpAnyN_tk (i := 9) (v := ?_) rfl (by kernel_rfl) (fun _ _ _ h => h) (Or.inl ⟨by rfl, ?_⟩) (by assumption) ?_
          rotate_left
          · intro w hSw; ((try dsimp only at hSw); go_simp; (try with_reducible rfl))
          simp only [Act.put, List.setIfInBounds_toArray, List.set_cons_zero, List.set_cons_succ]
          refine wpAnyN_one (i := 4) rfl (by kernel_rfl) ?_
          apply lit_buildSlice #[] rfl
          · exact hb0.out
          simp only [Act.put, List.setIfInBounds_toArray, List.set_cons_zero, List.set_cons_succ]
          go_wp2_with fail
          refine ⟨fun _ => hS3.out, ?_⟩
          refine wpAnyN_one (i := 7) rfl (by kernel_rfl) ?_
          apply lit_append
          · exact hr1H.out
          simp only [Act.put, List.setIfInBounds_toArray, List.set_cons_zero, List.set_cons_succ]
          go_wp2_with fail
          refine ⟨fun _ => hS4.out, ?_⟩
          refine wpAnyN_one (i := 10) rfl (by kernel_rfl) ?_
          apply lit_append
          · exact hr2H.out
          simp only [Act.put, List.setIfInBounds_toArray, List.set_cons_zero, List.set_cons_succ]
          go_wp2_with fail
          refine ⟨fun _ => hS5.out, ?_⟩
          refine wpAnyN_one (i := 11) rfl (by kernel_rfl) ?_
          go_wp2_with fail
          refine hc.out.mono ?_; rintro e1 w6 ⟨v6, o6, rfl, hs6, rfl⟩
          have hS7 := hS6.out w6 o6 hs6
          go_wp2_with fail
          refine ⟨fun _ => hS7, ?_⟩
          refine wpAnyN_tk (i := 12) (v := ?_) rfl (by kernel_rfl) (fun _ _ _ h => h) (Or.inl ⟨by rfl, ?_⟩) (by assumption) ?_
          rotate_left
          · intro w hSw; ((try dsimp only at hSw); go_simp; (try with_reducible rfl))
          simp only [Act.put, List.setIfInBounds_toArray, List.set_cons_zero, List.set_cons_succ]
          refine wpAnyN_done (by kernel_rfl) ?_ _
          go_wp2_with fail
          go_ret
          exact ⟨_, o6, rfl, hst.out.trans (hTT.out.trans hs6), rfl⟩
      · simp only [hp] at h0
        exact absurd h0 (by simp)
end
end Go.Proofs.YtfgggkheadfiaaaR
/- The runs of the law StoreKeeps: how they are read. -/
namespace Go.Proofs.YtfgggkheadfiaaaR
open Go Go.RowKit

structure RunM where
  l : List ActM
  fuse : Int
  fates : List Int
def RunM.ok (r : RunM) : Prop := (-9223372036854775808 ≤ r.fuse ∧ r.fuse ≤ 9223372036854775807) ∧ ∀ a ∈ r.fates, -9223372036854775808 ≤ a ∧ a ≤ 9223372036854775807
/-- v reads as the runs l. -/
def Runs (w : World) (o : Own) (v : Value) (l : List RunM) : Prop :=
  ((∃ a c, v = .slice a 0 c) ∧ l = []) ∨ ∃ b off cap, v = .slice (some ⟨b, off, none⟩) l.length cap ∧ l.length ≤ cap ∧ cap ≤ maxLen ∧ (o b).1 = 0 ∧ b < w.heap.size ∧
    ∀ i (h : i < l.length), l[i].ok ∧ ∃ lv fv, w.rangeAt b (off + i * 3) [lv, .int .i64 l[i].fuse, fv] ∧ Acts w o lv l[i].l ∧ Ints w o fv l[i].fates
theorem Runs.step {T : Nat → Prop} {w w' : World} {o o' : Own} {v : Value} {l : List RunM} (h : Runs w o v l) (s : Step T w o w' o') (hT : ¬ T 0) : Runs w' o' v l := by
  rcases h with h | ⟨b, off, cap, hv, hl, hm, ho, hb, hr⟩
  · exact .inl h
  · refine .inr ⟨b, off, cap, hv, hl, hm, by rw [s.own b hb]; exact ho, Nat.lt_of_lt_of_le hb s.size, fun i hi => ?_⟩
    obtain ⟨h1, lv, fv, h2, h3, h4⟩ := hr i hi
    exact ⟨h1, lv, fv, range_same h2 (s.block b hb (by rw [ho]; exact hT)), h3.step s hT, Slc.step h4 s hT⟩
theorem Runs.form {w : World} {o : Own} {v : Value} {l : List RunM} (h : Runs w o v l) : ∃ a c, v = .slice a l.length c := by
  rcases h with ⟨⟨a, c, rfl⟩, rfl⟩ | ⟨b, off, cap, rfl, _⟩ <;> exact ⟨_, _, rfl⟩
theorem Runs.at {w : World} {o : Own} {a : Option Addr} {n c : Nat} {l : List RunM} (h : Runs w o (.slice a n c) l) {i : Nat} {x : RunM} (hx : l[i]? = some x) :
    ∃ b off lv fv, a = some ⟨b, off, none⟩ ∧ w.rangeAt b (off + i * 3) [lv, .int .i64 x.fuse, fv] ∧ Acts w o lv x.l ∧ Ints w o fv x.fates ∧ x.ok ∧ b < w.heap.size ∧ (o b).1 = 0 := by
  obtain ⟨hi, rfl⟩ := List.getElem?_eq_some_iff.1 hx
  rcases h with ⟨_, rfl⟩ | ⟨b, off, cap, hv, hl, hm, ho, hb, hr⟩
  · simp at hi
  · simp only [Value.slice.injEq] at hv
    obtain ⟨rfl, rfl, rfl⟩ := hv
    obtain ⟨h1, lv, fv, h2, h3, h4⟩ := hr i hi
    exact ⟨b, off, lv, fv, rfl, h2, h3, h4, h1, hb, ho⟩
section
variable {H : Type} {enc : TypeId × Value → H} {W : World}
set_option maxRecDepth 100000 in
theorem read_runs9 {fuel : Nat} {v : Value} {x : DataW H × List MemPlace} (h : DataW.trod enc Try.prog W 0 (fun _ => true) true fuel 115 [v] = some x) : ∃ l : List RunM, Runs W (fun _ => (0, 0)) v l := by
  have c117 : Try.prog.cellsOf 117 = 3 := by kernel_rfl
  have c88 : Try.prog.cellsOf 88 = 1 := by kernel_rfl
  have c3 : Try.prog.cellsOf 3 = 1 := by kernel_rfl
  have c34 : Try.prog.cellsOf 34 = 1 := by kernel_rfl
  rcases read_slice Try.underlying115 (by omega) h with ⟨a, c, rfl⟩ | ⟨b, off, len, cap, rfl, h0, hlc, hcm, hb, hel⟩
  · exact ⟨[], .inl ⟨⟨a, c, rfl⟩, rfl⟩⟩
  · obtain ⟨l, hl, hr⟩ := list_choose (fun i (m : RunM) => m.ok ∧ ∃ lv fv, W.rangeAt b (off + i * 3) [lv, .int .i64 m.fuse, fv] ∧ Acts W (fun _ => (0, 0)) lv m.l ∧ Ints W (fun _ => (0, 0)) fv m.fates) len (fun i hi => by
      obtain ⟨cs', k1, k2, n, y, k3⟩ := hel i (by omega)
      rw [c117] at k1 k2
      obtain ⟨xs, n', _, _, _, hxs, hf⟩ := DataW.trod_struct Try.underlying117 k3
      match cs', k1 with
      | [v0, v1, v2], _ =>
        have f0 : DataW.trod enc Try.prog W 0 (fun _ => true) true n' 88 (([v0, v1, v2].drop 0).take (Try.prog.cellsOf 88)) = xs[0]? := hf 0 _ rfl
        have f1 : DataW.trod enc Try.prog W 0 (fun _ => true) true n' 3 (([v0, v1, v2].drop 1).take (Try.prog.cellsOf 3)) = xs[1]? := hf 1 _ rfl
        have f2 : DataW.trod enc Try.prog W 0 (fun _ => true) true n' 34 (([v0, v1, v2].drop 2).take (Try.prog.cellsOf 34)) = xs[2]? := hf 2 _ rfl
        have hsz : xs.length = 3 := hxs
        simp only [c3, c34, c88, List.drop_zero, List.take_succ_cons, List.take_zero, List.drop_succ_cons] at f0 f1 f2
        rw [List.getElem?_eq_getElem (by omega)] at f0 f1 f2
        obtain ⟨ax, has⟩ := read_acts9 f0
        obtain ⟨a1, e1, _, w1⟩ := DataW.trod_int Try.underlying3 f1
        obtain ⟨fs, hfs, hfw⟩ := read_ints f2
        simp only [List.cons.injEq, and_true] at e1
        subst e1
        exact ⟨⟨ax, a1, fs⟩, ⟨Go.bounds_i64 w1, hfw⟩, v0, v2, k2, has, hfs⟩)
    exact ⟨l, .inr ⟨b, off, cap, by rw [hl], by omega, hcm, rfl, hb, hr⟩⟩
end
end Go.Proofs.YtfgggkheadfiaaaR
/- The statement StoreKeeps: the walk. -/
namespace Go.Proofs.YtfgggkheadfiaaaR
open Go Go.RowKit
attribute [local go_sem ↓] Go.wp_at_zero Go.wp_at_succ
theorem zc99 : ((Try.prog.info? 99).bind (·.zero)).map (·.cells) = some #[.int .u8 0, .int .u64 0, .slice none 0 0] := by kernel_rfl
theorem StoreAt.setDisk {w w' : World} {o o' : Own} {S A B D ps pd base : Nat} {s : StoreM} {d' : DiskM} (ht : Tags S A B D) (h : StoreAt w o S A B D ps pd base s) (st : Step (Only D) w o w' o') (hd : DiskAt w' o' D pd d') : StoreAt w' o' S A B D ps pd base { s with d := d' } := by
  obtain ⟨X, Y, pa, pb, k, kv, hp, hbx, hl, ha, hbb, -⟩ := h
  have n0 : ¬ Only D 0 := fun h => ht.d0 h.symm
  have nS : ¬ Only D S := fun h => ht.sd h
  have nX : ¬ Only D X := fun h => by rcases hp with ⟨rfl, -⟩ | ⟨rfl, -⟩; exact ht.ad h; exact ht.bd h
  have nY : ¬ Only D Y := fun h => by rcases hp with ⟨-, rfl⟩ | ⟨-, rfl⟩; exact ht.bd h; exact ht.ad h
  exact ⟨X, Y, pa, pb, k, kv, hp, hbx.step st nS, hl.step st n0, ha.step st nX n0, hbb.step st nY n0, hd⟩
theorem kill_same {d : DiskM} (h : d.dead = true) : d.kill = d := by
  obtain ⟨p, r, l, dd⟩ := d
  simp only at h
  subst h; rfl
theorem sdead_yes {w : World} {o : Own} {S A B D ps pd base : Nat} {s : StoreM} (h : StoreAt w o S A B D ps pd base s) (hs : s.dead = true) :
    Calls Try.prog 60 #[.pointer (some ⟨ps, 0, none⟩)] w fun e w' => e = .returned (.bool true) ∧ w = w' := by
  have := sdead_any h
  rw [hs, Bool.true_or] at this; exact this
theorem promise_dead {w : World} {o : Own} {S A B D ps pd : Nat} {s : StoreM} (ht : Tags S A B D) (h : StoreAt w o S A B D ps pd 0 s) (hs : s.dead = true) (hrow : s.d.row.length ≤ 600000) (hpg : 1 ≤ s.pages ∧ s.pages ≤ 4096) (hk : KOk s.kept) (e : BitVec 64) :
    Calls Try.prog 61 #[.pointer (some ⟨ps, 0, none⟩), .int .u64 (e.toNat : Int)] w (Ret (In4 S A B D) w o fun v w' o' => v = .int .i64 9 ∧ StoreAt w' o' S A B D ps pd 0 s) := by
  refine (spromise_any ht h hrow hpg hk.small e).mono ?_
  rintro e1 w1 ⟨v, o1, rfl, hs1, hw⟩
  have he : s.promise e = (s, 9) := by unfold StoreM.promise; rw [hs]; rfl
  rw [he] at hw
  exact ⟨v, o1, rfl, hs1, hw.zero⟩
theorem dead_is {w : World} {o : Own} {D p : Nat} {d : DiskM} (h : DiskAt w o D p d) (hd : d.dead = true) : Calls Try.prog 28 #[.pointer (some ⟨p, 0, none⟩)] w fun e w' => e = .returned (.bool true) ∧ w = w' := by
  have := dead_any h
  rw [hd] at this; exact this
set_option maxRecDepth 100000 in
theorem storeKeeps_out {w : World} {o : Own} (n : Int) (R : Nat) (ba : Option Addr) (bc : Nat) (hn : (n < 8 ∨ 200 < n) ∨ 8 < R) : Calls Try.prog 18 #[.int .i64 n, .slice ba R bc] w (Ret Nobody w o fun v _ _ => v = .bool true) := by
  by_cases h8 : n < 8
  · clear hn
    go_enter Try.func18, Try.ntmps18
    go_wp2_with fail
    go_ret
    exact ⟨_, o, rfl, Step.refl _ _ _, rfl⟩
  · by_cases h2 : 200 < n
    · clear hn
      go_enter Try.func18, Try.ntmps18
      go_wp2_with fail
      go_ret
      exact ⟨_, o, rfl, Step.refl _ _ _, rfl⟩
    · have h3 : (8 : Int) < (R : Int) := by omega
      clear hn
      go_enter Try.func18, Try.ntmps18
      go_wp2_with fail
      go_ret
      exact ⟨_, o, rfl, Step.refl _ _ _, rfl⟩
set_option maxRecDepth 100000 in
set_option maxHeartbeats 51200000 in
theorem storeKeeps_main {w : World} {o : Own} (n : Nat) (h8 : 8 ≤ n) (h200 : n ≤ 200) {v : Value} {rs : List RunM} (hl : Runs w o v rs) (hr8 : rs.length ≤ 8) :
    Calls Try.prog 18 #[.int .i64 (n : Int), v] w (Ret Nobody w o fun v _ _ => v = .bool true) := by
  obtain ⟨M, -, hM⟩ := tag_bound o 0 w.heap.size
  have nn : ∀ k, ¬ Nobody k := fun _ h => h
  have hT0 : ¬ Above M 0 := fun h => by change M < 0 at h; omega
  obtain ⟨D, hD⟩ : ∃ D, D = M + 1 := ⟨_, rfl⟩
  have hD0 : D ≠ 0 := by omega
  have hDM : ∀ k, Only D k → Above M k := fun k hk => by change k = D at hk; show M < k; omega
  have h4 : ∀ Mx, D ≤ Mx → ∀ k, In4 (Mx + 1) (Mx + 2) (Mx + 3) D k → Above M k := fun Mx h => in4_above (by omega) (by omega)
  have hab : ∀ Mx, D ≤ Mx → ∀ k, Above Mx k → Above M k := fun Mx h k hk => by change Mx < k at hk; show M < k; omega
  obtain ⟨H, hH⟩ : ∃ H, n / 2 = H := ⟨_, rfl⟩
  obtain ⟨aa, ac, rfl⟩ := hl.form
  obtain ⟨R, hR⟩ : ∃ R, rs.length = R := ⟨_, rfl⟩
  rw [hR] at hl hr8 ⊢
  have hlH := hidden hl
  have hRH := hidden hR
  have h8I : ¬ (n : Int) < 8 := by omega
  have h2I : ¬ (200 : Int) < (n : Int) := by omega
  have hR8I : ¬ (8 : Int) < (R : Int) := by omega
  have hG0 := newS_sg (n := n) h8 (by omega)
  rw [hH] at hG0
  have hG0H := hidden hG0
  have hHH := hidden hH
  clear hl hR hD hG0 hH
  go_enter Try.func18, Try.ntmps18
  go_wp2_with fail
  go_loopw [5] (fun i wr => ∃ (k : Nat) (oj : Own), k ≤ R ∧ i = .int .i64 k ∧ Step Nobody w o wr oj ∧ ∀ r ∈ rs.take k, Few r.l ∧ r.fates.length ≤ 100) (fun i _ => R - (intOf i).toNat)
  case atStart => exact ⟨0, o, Nat.zero_le _, rfl, Step.refl _ _ _, by simp⟩
  case round =>
    obtain ⟨k, oj, hk, rfl, hst, hall⟩ := hrel
    have hallH := hidden hall
    clear hall
    by_cases hlt : k < R
    · have hltI : (k : Int) < (R : Int) := by omega
      obtain ⟨r, hx⟩ : ∃ r, rs[k]? = some r := ⟨_, List.getElem?_eq_getElem (by rw [hRH.out]; exact hlt)⟩
      obtain ⟨b, off, lv, fv, rfl, hrg, hac, hfi, -, hbl, hbt⟩ := (hlH.out.step hst (nn _)).at hx
      obtain ⟨la, lc, rfl⟩ := hac.form
      obtain ⟨fa, fc, rfl⟩ := slc_form hfi
      have cL : wr.cell? ⟨b, off + k * 3, none⟩ = some (.slice la r.l.length lc) := hrg 0 _ rfl
      have hgr := hidden (great_any hac)
      have hcF := hidden (fun (W : World) (O : Own) (st : Step Nobody wr oj W O) => (show W.cell? ⟨b, off + k * 3 + 2, none⟩ = some (.slice fa r.fates.length fc) from range_same hrg (st.block b hbl (nn _)) 2 _ rfl))
      have hxH := hidden hx
      obtain ⟨L, hL⟩ : ∃ L, r.l.length = L := ⟨_, rfl⟩
      obtain ⟨F, hF⟩ : ∃ F, r.fates.length = F := ⟨_, rfl⟩
      rw [hL] at cL hgr
      rw [hF] at hcF
      have hFH := hidden hF
      clear hrg hac hfi hx hL hF
      go_wp2_with fail
      refine hgr.out.mono ?_; rintro e w3 ⟨v3, o3, rfl, hs3, g, rfl, hfew⟩
      have hst3 := hst.trans hs3
      have cF := hcF.out w3 o3 hs3
      have hfewH := hidden hfew
      clear hfew hs3 hst cL hgr hcF
      cases g with
      | true =>
        go_wp2_with fail
        go_ret
        exact ⟨_, o3, rfl, hst3, rfl⟩
      | false =>
        by_cases hf : F ≤ 100
        · have hfI : ¬ (100 : Int) < (F : Int) := by omega
          have hst3 := hidden hst3
          go_wp2_with fail
          go_roundw
          case rel => exact ⟨k + 1, o3, by omega, by go_num, hst3.out, fun y hy => by
            rw [List.take_add_one, hxH.out] at hy
            rcases List.mem_append.1 hy with hy | hy
            · exact hallH.out y hy
            · simp at hy; subst hy; exact ⟨hfewH.out (by trivial), by rw [hFH.out]; exact hf⟩⟩
          case measure => simp [intOf]; omega
        · have hfI : (100 : Int) < (F : Int) := by omega
          go_wp2_with fail
          go_ret
          exact ⟨_, o3, rfl, hst3, rfl⟩
    · obtain rfl : k = R := by omega
      have hfewA := hidden (show ∀ r ∈ rs, Few r.l ∧ r.fates.length ≤ 100 from fun r hr => hallH.out r (by rw [List.take_of_length_le (by rw [hRH.out]; omega)]; exact hr))
      have hst0 := hst.above0 (M := M)
      have hnew := new_ok n wr oj D (by omega) (by omega)
      clear hst hallH
      go_wp2_with fail
      refine hnew.mono ?_; rintro e W1 ⟨v, o1, rfl, hs, pd, -, rfl, hd⟩
      have hst := hst0.trans (hs.above0 (M := M))
      have hop := opens_any D (Nat.le_refl _) hD0 hG0H.out (by omega) (by simp [newS, DiskM.new]; omega) (t := newS n) hd
      clear hnew hs hd hst0
      go_wp2_with fail
      refine hop.mono ?_; rintro e W2 ⟨v, o2, rfl, hs, ps0, rfl, ha⟩
      have hF0 := hidden (And.intro ha (hst.trans (hs.mono (hab D (Nat.le_refl _)))))
      clear hop hs ha hst
      go_wp2_with fail
      go_loopw [8, 10] (fun pv i wr => ∃ (j : Nat) (oj : Own) (s : StoreM) (ps Mx : Nat), j ≤ k ∧ i = .int .i64 j ∧ pv = .pointer (some ⟨ps, 0, none⟩) ∧ D ≤ Mx ∧ StoreAt wr oj (Mx + 1) (Mx + 2) (Mx + 3) D ps pd 0 s ∧ Step (Above M) w o wr oj ∧
          SG (800 * j) H s ∧ KOk s.kept ∧ s.d.left < 0 ∧ s.d.pages.length = n) (fun _ i _ => k - (intOf i).toNat)
      case atStart => exact ⟨0, o2, newS n, ps0, D, Nat.zero_le _, rfl, rfl, Nat.le_refl _, hF0.out.1, hF0.out.2, hG0H.out, KOk.zero, by show (-1 : Int) < 0; omega, by simp [newS, DiskM.new]⟩
      case round =>
        clear hF0
        obtain ⟨j, oj, s0, ps, Mx, hj, rfl, rfl, hMx, ha, hst, hG, hk0, hlf, hpl⟩ := hrel
        have ht := tags_new (Mx := Mx) hMx hD0
        have nI0 := in4_0 ht
        have hMxM := h4 Mx hMx
        by_cases hlt : j < k
        · have hltI : (j : Int) < (k : Int) := by omega
          obtain ⟨r, hx⟩ : ∃ r, rs[j]? = some r := ⟨_, List.getElem?_eq_getElem (by rw [hRH.out]; exact hlt)⟩
          obtain ⟨b, off, lv, fv, rfl, hrg, hac, hfi, hrok, hbl, hbt⟩ := hlH.out.at hx
          obtain ⟨hfw, hf100⟩ := hfewA.out r (List.mem_of_getElem? hx)
          obtain ⟨la, lc, rfl⟩ := hac.form
          obtain ⟨fa, fc, rfl⟩ := slc_form hfi
          obtain ⟨L, hL⟩ : ∃ L, r.l.length = L := ⟨_, rfl⟩
          obtain ⟨F, hF⟩ : ∃ F, r.fates.length = F := ⟨_, rfl⟩
          have hL60 : L ≤ 60 := by rw [← hL]; exact hfw.1
          have hf3H := hidden hfw.2
          have hcL := hidden (fun (W : World) (O : Own) (st : Step (Above M) w o W O) => (show W.cell? ⟨b, off + j * 3, none⟩ = some (.slice la L lc) from by
            rw [← hL]; exact range_same hrg (st.block b hbl (by rw [hbt]; exact hT0)) 0 _ rfl))
          have hcU := hidden (fun (W : World) (O : Own) (st : Step (Above M) w o W O) => (show W.cell? ⟨b, off + j * 3 + 1, none⟩ = some (.int .i64 r.fuse) from range_same hrg (st.block b hbl (by rw [hbt]; exact hT0)) 1 _ rfl))
          have hcF := hidden (fun (W : World) (O : Own) (st : Step (Above M) w o W O) => (show W.cell? ⟨b, off + j * 3 + 2, none⟩ = some (.slice fa F fc) ∧ Ints W O (.slice fa F fc) r.fates from by
            rw [← hF]; exact ⟨range_same hrg (st.block b hbl (by rw [hbt]; exact hT0)) 2 _ rfl, Slc.step hfi st hT0⟩))
          rw [hL] at hac
          have hacH := hidden hac
          have hLH := hidden hL
          have hrokH := hidden hrok
          obtain ⟨T0, hT0'⟩ : ∃ T0, textM s0.kept.promised s0.kept.current s0.kept.lines = T0 := ⟨_, rfl⟩
          have htx := text_is ha hk0 hT0'
          have hs0H := hidden (And.intro hG (And.intro hk0 (And.intro hlf (And.intro hpl hT0'))))
          clear hrg hac hfi hrok hbl hbt hfw hf100 hL hF hx hG hk0 hlf hpl hT0' ht
          go_wp2_with fail
          refine htx.mono ?_; rintro e W3 ⟨v, o3, rfl, hs, rfl⟩
          have hF3 := hidden (And.intro (ha.step0 hs) (hst.trans (hs.above0 (M := M))))
          clear hs htx ha hst
          go_wp2_with fail
          go_loopw [11, 12, 13] (fun wv mv kv wq => ∃ (q : Nat) (oq : Own) (s : StoreM) (T : List UInt8), q ≤ L ∧ kv = .int .i64 q ∧ wv = .string ⟨T.toArray⟩ ∧ mv = .string ⟨T.toArray⟩ ∧ StoreAt wq oq (Mx + 1) (Mx + 2) (Mx + 3) D ps pd 0 s ∧ Step (Above M) w o wq oq ∧
              SG (800 * j + 3 * q) H s ∧ KOk s.kept ∧ (q < L → s.d.left < 0) ∧ s.d.pages.length = n ∧ textM s.kept.promised s.kept.current s.kept.lines = T) (fun _ _ kv _ => L - (intOf kv).toNat)
          case atStart => exact ⟨0, o3, s0, T0, Nat.zero_le _, rfl, rfl, rfl, hF3.out.1, hF3.out.2, hs0H.out.1, hs0H.out.2.1, fun _ => hs0H.out.2.2.1, hs0H.out.2.2.2.1, hs0H.out.2.2.2.2⟩
          case round =>
            clear hF3 hs0H
            obtain ⟨q, oq, s, T, hq, rfl, rfl, rfl, ha, hst, hG, hk0, hlf, hpl, hT⟩ := hrel
            have ht := hidden (tags_new (Mx := Mx) hMx hD0)
            have cL := hcL.out wr oq hst
            by_cases hqL : q < L
            · have hqLI : (q : Int) < (L : Int) := by omega
              obtain ⟨a, hx⟩ : ∃ a, r.l[q]? = some a := ⟨_, List.getElem?_eq_getElem (by rw [hLH.out]; exact hqL)⟩
              obtain ⟨ab, aoff, lv2, rfl, hrg, hln, hk5, hbl, hbt⟩ := hacH.out.at hx
              obtain ⟨la2, lc2, rfl⟩ := hln.form
              have hn2 := hf3H.out a (List.mem_of_getElem? hx)
              obtain ⟨n2, hn2e⟩ : ∃ n2, a.ls.length = n2 := ⟨_, rfl⟩
              rw [hn2e] at hrg hln
              have hA := hidden (fun (W : World) (O : Own) (st : Step (Above M) w o W O) => (show W.rangeAt ab (aoff + q * 3) [.int .u8 (a.k : Int), .int .u64 (a.e.toNat : Int), .slice la2 n2 lc2] ∧ Lines W O 0 (.slice la2 n2 lc2) a.ls from
                ⟨range_same hrg (st.block ab hbl (by rw [hbt]; exact hT0)), hln.step st hT0⟩))
              have hn2H := hidden (show a.ls.length ≤ 1000 by omega)
              clear hrg hln hx hbl hbt hn2 hn2e
              have hlf := hlf hqL
              by_cases hlast : q + 1 = L
              · have hlI : ((q : Int) == (L : Int) - 1) = true := by simp; omega
                have hfu := hidden (fuse_any ha.disk r.fuse hrokH.out.1.2)
                have cU := hcU.out wr oq hst
                have hnL : ¬ q + 1 < L := by omega
                go_wp2_with fail
                refine hfu.out.mono ?_; rintro e wb ⟨vb, ob, rfl, hs, rfl, hd⟩
                have ha := ha.setDisk ht.out hs hd
                have hst := hst.trans (hs.mono hDM)
                have hG := hG.fuse r.fuse hrokH.out.1.2
                have hpl : ({ s with d := s.d.fuse r.fuse } : StoreM).d.pages.length = n := by show (s.d.fuse r.fuse).pages.length = n; rw [DiskM.fuse_pages]; exact hpl
                have hk0 : KOk ({ s with d := s.d.fuse r.fuse } : StoreM).kept := hk0
                have hT : textM ({ s with d := s.d.fuse r.fuse } : StoreM).kept.promised ({ s with d := s.d.fuse r.fuse } : StoreM).kept.current ({ s with d := s.d.fuse r.fuse } : StoreM).kept.lines = T := hT
                obtain ⟨sB, hsB⟩ : ∃ sB : StoreM, { s with d := s.d.fuse r.fuse } = sB := ⟨_, rfl⟩
                rw [hsB] at ha hG hpl hk0 hT
                have hlfN : Hid (q + 1 < L → sB.d.left < 0) := hidden (fun h => absurd h hnL)
                clear hs hd hsB hlf hfu cU hnL cL
                have cL := hcL.out wb ob hst
                have hld := hidden (load99 (hA.out wb ob hst).1)
                have hal := hidden (run_alloc_zero (P := Try.prog) wb 99 _ zc99)
                have hsw := setCells_alloc_whole wb #[.int .u8 0, .int .u64 0, .slice none 0 0] 99 [.int .u8 (a.k : Int), .int .u64 (a.e.toNat : Int), .slice la2 n2 lc2] rfl
                obtain ⟨hso, -⟩ := run_store_agg (P := Try.prog) (ty := 99) (vs := [.int .u8 (a.k : Int), .int .u64 (a.e.toNat : Int), .slice la2 n2 lc2]) (heap_alloc_new wb (.cells [.int .u8 0, .int .u64 0, .slice none 0 0].toArray 99)) rfl (by kernel_rfl) rfl
                rw [hsw] at hso
                have hsoH := hidden hso
                have sE := (Step.refl Nobody wb ob).alloc (.cells [.int .u8 (a.k : Int), .int .u64 (a.e.toNat : Int), .slice la2 n2 lc2].toArray 99) (0, 0)
                have bE : (wb.alloc (.cells [.int .u8 (a.k : Int), .int .u64 (a.e.toNat : Int), .slice la2 n2 lc2].toArray 99)).heap[wb.heap.size]? = some (.cells [.int .u8 (a.k : Int), .int .u64 (a.e.toNat : Int), .slice la2 n2 lc2].toArray 99 (0, 0)) := heap_alloc_new wb _
                have tE : (tagAt ob wb.heap.size (0, 0)) wb.heap.size = (0, 0) := tagAt_same _ _ _
                obtain ⟨wc, hwc⟩ : ∃ wc, wb.alloc (.cells [.int .u8 (a.k : Int), .int .u64 (a.e.toNat : Int), .slice la2 n2 lc2].toArray 99) = wc := ⟨_, rfl⟩
                obtain ⟨oc, hoc⟩ : ∃ oc, tagAt ob wb.heap.size (0, 0) = oc := ⟨_, rfl⟩
                obtain ⟨ga, hga⟩ : ∃ ga, wb.heap.size = ga := ⟨_, rfl⟩
                rw [hwc] at hsoH sE bE
                rw [hoc] at sE tE
                rw [hga] at hal hsoH bE tE
                have hld2 := hidden (load99 (a := a) (range_whole bE))
                have ha := ha.step0 sE
                have hst := hst.trans (sE.above0 (M := M))
                have hsH := hidden (And.intro hG (And.intro hk0 (And.intro hpl hT)))
                have hbEH := hidden (And.intro bE tE)
                have hlnB := (hA.out wc oc hst).2
                have hdo := hidden (does_any ht.out ha hG hk0 a hk5 hlnB hn2H.out)
                have hgaH := hidden hga
                clear hsw hso sE bE tE hwc hoc hga hlnB
                rcases StoreM.act_cases hG (by omega) hk0 a with ⟨q1, q2, q3⟩ | ⟨q0, s', q1, q2, q3, q4, q5⟩ | ⟨q0, q1, q2⟩ | ⟨q0, q9, q1, s', q2, q3, q4, q5, q6, q7, q8⟩
                · rw [q3] at hdo
                  have htx := fun (W : World) (O : Own) (h : StoreAt W O (Mx + 1) (Mx + 2) (Mx + 3) D ps pd 0 sB) => text_is h hsH.out.2.1 hsH.out.2.2.2
                  have htxH := hidden htx
                  clear q1 q2 q3 hG hk0 hpl hT htx ha
                  go_wp2_with (first
                    | ((with_reducible refine lit_load_at hld.out ?_ ?_); rfl; simp only [Act.put, List.setIfInBounds_toArray, List.set_cons_zero, List.set_cons_succ])
                    | ((with_reducible refine lit_alloc_at hal.out ?_); simp only [Act.put, List.setIfInBounds_toArray, List.set_cons_zero, List.set_cons_succ])
                    | ((with_reducible refine lit_store_at hsoH.out ?_ ?_ ?_); rfl; rfl; simp only [Act.put])
                    | ((with_reducible refine lit_load_at hld2.out ?_ ?_); rfl; simp only [Act.put, List.setIfInBounds_toArray, List.set_cons_zero, List.set_cons_succ]))
                  refine hdo.out.mono ?_; rintro e w3 ⟨v3, o3, rfl, hs3, rfl, ha3⟩
                  have hst3 := hst.trans (hs3.mono hMxM)
                  have htx := hidden (htxH.out w3 o3 ha3)
                  clear hs3 hdo hst
                  go_wp2_with fail
                  refine htx.out.mono ?_; rintro e w4 ⟨v4, o4, rfl, hs4, rfl⟩
                  have hRf := hidden (And.intro (ha3.step0 hs4) (hst3.trans (hs4.above0 (M := M))))
                  clear hs4 ha3 hst3 htx
                  go_wp2_with fail
                  go_roundw
                  case rel => exact ⟨q + 1, o4, sB, T, by omega, by go_num, rfl, rfl, hRf.out.1, hRf.out.2, hsH.out.1.mono (by omega), hsH.out.2.1, hlfN.out, hsH.out.2.2.1, hsH.out.2.2.2⟩
                  case measure => simp [intOf]; omega
                · rw [q1] at hdo
                  have hk1 : KOk s'.kept := by rw [q3]; exact hk0.next a
                  obtain ⟨T1, hT1⟩ : ∃ T1, textM s'.kept.promised s'.kept.current s'.kept.lines = T1 := ⟨_, rfl⟩
                  have hs1H := hidden (And.intro q2 (And.intro hk1 (And.intro (q4.trans hpl) (And.intro hT1 q5))))
                  clear q0 q1 q2 q3 q4 q5 hG hk0 hpl hT ha hk1 hT1
                  go_wp2_with (first
                    | ((with_reducible refine lit_load_at hld.out ?_ ?_); rfl; simp only [Act.put, List.setIfInBounds_toArray, List.set_cons_zero, List.set_cons_succ])
                    | ((with_reducible refine lit_alloc_at hal.out ?_); simp only [Act.put, List.setIfInBounds_toArray, List.set_cons_zero, List.set_cons_succ])
                    | ((with_reducible refine lit_store_at hsoH.out ?_ ?_ ?_); rfl; rfl; simp only [Act.put])
                    | ((with_reducible refine lit_load_at hld2.out ?_ ?_); rfl; simp only [Act.put, List.setIfInBounds_toArray, List.set_cons_zero, List.set_cons_succ]))
                  refine hdo.out.mono ?_; rintro e w3 ⟨v3, o3, rfl, hs3, rfl, ha3⟩
                  have hst3 := hst.trans (hs3.mono hMxM)
                  have htx := hidden (text_is ha3 hs1H.out.2.1 hs1H.out.2.2.2.1)
                  clear hs3 hdo hst
                  go_wp2_with fail
                  refine htx.out.mono ?_; rintro e w4 ⟨v4, o4, rfl, hs4, rfl⟩
                  have ha4 := ha3.step0 hs4
                  have hst4 := hst3.trans (hs4.above0 (M := M))
                  have htx := hidden (text_is ha4 hs1H.out.2.1 hs1H.out.2.2.2.1)
                  clear hs4 ha3 hst3
                  go_wp2_with fail
                  refine htx.out.mono ?_; rintro e w5 ⟨v5, o5, rfl, hs5, rfl⟩
                  have hRf := hidden (And.intro (ha4.step0 hs5) (hst4.trans (hs5.above0 (M := M))))
                  clear hs5 ha4 hst4 htx
                  go_wp2_with fail
                  go_roundw
                  case rel => exact ⟨q + 1, o5, s', T1, by omega, by go_num, rfl, rfl, hRf.out.1, hRf.out.2, hs1H.out.1.mono (by omega), hs1H.out.2.1, fun h => absurd h (by omega), hs1H.out.2.2.1, hs1H.out.2.2.2.1⟩
                  case measure => simp [intOf]; omega
                · rw [q1] at hdo
                  have htx := fun (W : World) (O : Own) (h : StoreAt W O (Mx + 1) (Mx + 2) (Mx + 3) D ps pd 0 sB) => text_is h hsH.out.2.1 hsH.out.2.2.2
                  have htxH := hidden htx
                  clear q1 q2 q0 hG hk0 hpl hT htx ha
                  go_wp2_with (first
                    | ((with_reducible refine lit_load_at hld.out ?_ ?_); rfl; simp only [Act.put, List.setIfInBounds_toArray, List.set_cons_zero, List.set_cons_succ])
                    | ((with_reducible refine lit_alloc_at hal.out ?_); simp only [Act.put, List.setIfInBounds_toArray, List.set_cons_zero, List.set_cons_succ])
                    | ((with_reducible refine lit_store_at hsoH.out ?_ ?_ ?_); rfl; rfl; simp only [Act.put])
                    | ((with_reducible refine lit_load_at hld2.out ?_ ?_); rfl; simp only [Act.put, List.setIfInBounds_toArray, List.set_cons_zero, List.set_cons_succ]))
                  refine hdo.out.mono ?_; rintro e w3 ⟨v3, o3, rfl, hs3, rfl, ha3⟩
                  have hst3 := hst.trans (hs3.mono hMxM)
                  have htx := hidden (htxH.out w3 o3 ha3)
                  clear hs3 hdo hst
                  go_wp2_with fail
                  refine htx.out.mono ?_; rintro e w4 ⟨v4, o4, rfl, hs4, rfl⟩
                  have hRf := hidden (And.intro (ha3.step0 hs4) (hst3.trans (hs4.above0 (M := M))))
                  clear hs4 ha3 hst3 htx
                  go_wp2_with fail
                  go_roundw
                  case rel => exact ⟨q + 1, o4, sB, T, by omega, by go_num, rfl, rfl, hRf.out.1, hRf.out.2, hsH.out.1.mono (by omega), hsH.out.2.1, hlfN.out, hsH.out.2.2.1, hsH.out.2.2.2⟩
                  case measure => simp [intOf]; omega
                · rw [q2] at hdo
                  have hk1 : KOk s'.kept := by rw [q5]; exact hk0
                  obtain ⟨Tm, hTm⟩ : ∃ Tm, textM (sB.kept.next a).1.promised (sB.kept.next a).1.current (sB.kept.next a).1.lines = Tm := ⟨_, rfl⟩
                  have hs1H := hidden (And.intro q3 (And.intro q4 (And.intro q6 (And.intro q7 hk1))))
                  obtain ⟨t, t1, t2, t3, t4, t5⟩ := q8 r.fates
                  have htF : ∃ t, SG (800 * j + 3 * q + 600) H t ∧ KOk t.kept ∧ t.d = s'.d.kill.restart r.fates ∧ t.d.left = -1 ∧ t.d.pages.length = n ∧ (textM t.kept.promised t.kept.current t.kept.lines = T ∨ textM t.kept.promised t.kept.current t.kept.lines = Tm) :=
                    ⟨t, t1, by rcases t5 with h | h <;> rw [h]; exact hk0; exact hk0.next a, by rw [kill_same q4]; exact t2, t3, t4.trans hpl, by rcases t5 with h | h <;> rw [h]; exact .inl hT; exact .inr hTm⟩
                  have htFH := hidden htF
                  have hafH := hidden (fun (W : World) (O : Own) (lb : Nat) (kv : Value) (hkl : Lines W O lb kv sB.kept.lines) (hst : Step (Above M) w o W O) => after_any (p := sB.kept.promised) (c := sB.kept.current) T hkl a hk5 (hA.out W O hst).2 q0 q9 (hk0.next a) hTm)
                  have q5H := hidden q5
                  clear q0 q1 q2 q3 q4 q5 q6 q7 q8 q9 hG hk0 hpl hT ha hk1 hTm t1 t2 t3 t4 t5 htF
                  go_wp2_with (first
                    | ((with_reducible refine lit_load_at hld.out ?_ ?_); rfl; simp only [Act.put, List.setIfInBounds_toArray, List.set_cons_zero, List.set_cons_succ])
                    | ((with_reducible refine lit_alloc_at hal.out ?_); simp only [Act.put, List.setIfInBounds_toArray, List.set_cons_zero, List.set_cons_succ])
                    | ((with_reducible refine lit_store_at hsoH.out ?_ ?_ ?_); rfl; rfl; simp only [Act.put])
                    | ((with_reducible refine lit_load_at hld2.out ?_ ?_); rfl; simp only [Act.put, List.setIfInBounds_toArray, List.set_cons_zero, List.set_cons_succ]))
                  refine hdo.out.mono ?_; rintro e w3 ⟨v3, o3, rfl, hs3, rfl, ha3⟩
                  have hst3 := hst.trans (hs3.mono hMxM)
                  have hb3 := (hs3.block ga (lt_of_block hbEH.out.1) (by rw [hbEH.out.2]; exact nI0)).trans hbEH.out.1
                  have hS3 : w3.rangeAt ga 0 [.int .u8 (a.k : Int), .int .u64 (a.e.toNat : Int), .slice la2 n2 lc2] := range_whole hb3
                  have hSn := hidden (fun (W : World) (O : Own) (st : Step Nobody w3 o3 W O) => (show W.rangeAt ga 0 [.int .u8 (a.k : Int), .int .u64 (a.e.toNat : Int), .slice la2 n2 lc2] from range_same hS3 (st.block ga (lt_of_block hb3) (nn _))))
                  have hkp := hidden (skept_any (ha3.step0 (Step.refl Nobody w3 o3).drew) hs1H.out.2.2.2.2.small)
                  rw [q5H.out] at hkp
                  have hdr := (Step.refl Nobody w3 o3).drew
                  clear hs3 hdo hst hb3 hS3
                  go_wp2_with fail
                  refine wp_region_need (fun w' => w'.rangeAt ga 0 [.int .u8 (a.k : Int), .int .u64 (a.e.toNat : Int), .slice la2 n2 lc2]) (fun _ => true) (by kernel_rfl) (hSn.out w3.drew o3 hdr) (fun hHeld => ?_)
                  refine wpAnyN_tk (i := 0) (v := ?_) rfl (by kernel_rfl) (fun _ _ _ h => h) (Or.inl ⟨by rfl, ?_⟩) (by assumption) ?_
                  rotate_left
                  · intro w hSw; ((try dsimp only at hSw); go_simp; (try with_reducible rfl))
                  simp only [Act.put, List.setIfInBounds_toArray, List.set_cons_zero, List.set_cons_succ]
                  refine wpAnyN_tk (i := 1) (v := ?_) rfl (by kernel_rfl) (fun _ _ _ h => h) (Or.inl ⟨by rfl, ?_⟩) (by assumption) ?_
                  rotate_left
                  · intro w hSw; ((try dsimp only at hSw); go_simp; (try with_reducible rfl))
                  simp only [Act.put, List.setIfInBounds_toArray, List.set_cons_zero, List.set_cons_succ]
                  refine wpAnyN_tk (i := 3) (v := .agg [.int .u8 (a.k : Int), .int .u64 (a.e.toNat : Int), .slice la2 n2 lc2].toArray) rfl (by kernel_rfl) (fun _ _ _ h => h) (yieldsIf_load_mid rfl 99 (.tmp 14) rfl ga 0 rfl [.int .u8 (a.k : Int), .int .u64 (a.e.toNat : Int), .slice la2 n2 lc2] _ (fun w h => h) Try.underlying99 rfl (by kernel_rfl)) (by assumption) ?_
                  simp only [Act.put, List.setIfInBounds_toArray, List.set_cons_zero, List.set_cons_succ]
                  refine wpAnyN_one (i := 2) rfl (by kernel_rfl) ?_
                  go_wp2_with fail
                  refine hkp.out.mono ?_; rintro e w4 ⟨v4, o4, rfl, hs4, kv, rfl, hkl, -⟩
                  have st4 := hdr.trans hs4
                  have hS4 := hSn.out w4 o4 st4
                  have haf := hidden (hafH.out w4 o4 _ kv hkl (hst3.trans (st4.above0 (M := M))))
                  clear hHeld hs4 hkl
                  go_wp2_with fail
                  refine ⟨fun _ => hS4, ?_⟩
                  refine wpAnyN_one (i := 4) rfl (by kernel_rfl) ?_
                  go_wp2_with fail
                  refine haf.out.mono ?_; rintro e w5 ⟨v5, o5, rfl, hs5, rfl⟩
                  have st5 := st4.trans hs5
                  have hS5 := hSn.out w5 o5 st5
                  clear hS4 hs5
                  go_wp2_with fail
                  refine ⟨fun _ => hS5, ?_⟩
                  refine wpAnyN_tk (i := 5) (v := ?_) rfl (by kernel_rfl) (fun _ _ _ h => h) (Or.inl ⟨by rfl, ?_⟩) (by assumption) ?_
                  rotate_left
                  · intro w hSw; ((try dsimp only at hSw); go_simp; (try with_reducible rfl))
                  simp only [Act.put, List.setIfInBounds_toArray, List.set_cons_zero, List.set_cons_succ]
                  refine wpAnyN_done (by kernel_rfl) ?_ _
                  have ha5 := ha3.step0 st5
                  have hst5 := hst3.trans (st5.above0 (M := M))
                  have hdd := hidden (dead_is ha5.disk hs1H.out.2.1)
                  have hsd := hidden (sdead_yes ha5 hs1H.out.1)
                  have hpd := hidden (promise_dead ht.out ha5 hs1H.out.1 (by have := hs1H.out.2.2.2.1; omega) (by have h1 := hsH.out.1.h4; have h2 := hsH.out.1.h200; rw [hs1H.out.2.2.1]; omega) hs1H.out.2.2.2.2 140737488355328#64)
                  rw [show ((140737488355328#64).toNat : Int) = 140737488355328 from rfl] at hpd
                  clear hS5 st5 st4 hdr hSn hkp haf ha3 hst3
                  go_wp2_with fail
                  refine hdd.out.mono ?_; rintro e w6 ⟨rfl, rfl⟩
                  go_wp2_with fail
                  refine hsd.out.mono ?_; rintro e w6 ⟨rfl, rfl⟩
                  go_wp2_with fail
                  refine hpd.out.mono ?_; rintro e w6 ⟨v6, o6, rfl, hs6, rfl, ha⟩
                  have hst := hst5.trans (hs6.mono hMxM)
                  have hkl := kill_any ha.disk
                  have hrow : s'.d.row.length ≤ 1000000 := by have := hs1H.out.2.2.2.1; omega
                  have htF := htFH.out
                  have hKb : 800 * j + 3 * q + 600 ≤ 800 * (j + 1) ∧ 800 * j + 3 * q + 600 < 65536 := by omega
                  clear hs6 hdd hsd hpd ha5 hst5
                  go_wp2_with fail
                  refine hkl.mono ?_; rintro e wk ⟨vk, ok, rfl, hs, rfl, hd⟩
                  have hst := hst.trans (hs.mono hDM)
                  obtain ⟨t, hGt, hkt, htd, htl, htp, htT⟩ := htF
                  have hre := hidden (restart_is hd hD0 (show s'.d.kill.row.length ≤ 1000000 from hrow) (.slice fa F fc) r.fates (hcF.out wk ok hst).2 hrokH.out.2 htd.symm)
                  have cF := (hcF.out wk ok hst).1
                  have htH := hidden (And.intro hGt (And.intro hkt (And.intro htl (And.intro htp htT))))
                  clear hkl hs hd ha hGt hkt htd htl htp htT hrow
                  go_wp2_with fail
                  refine hre.out.mono ?_; rintro e w1 ⟨v1, o1, rfl, hs, rfl, hd⟩
                  have hst := hst.trans (hs.mono hDM)
                  have hop := hidden (opens_any (t := t) (Mx + 3) (by omega) hD0 htH.out.1 hKb.2 (by rw [htH.out.2.2.2.1]; omega) hd)
                  clear hs hd hre cF
                  go_wp2_with fail
                  refine hop.out.mono ?_; rintro e w2 ⟨v2, o2, rfl, hs, px, rfl, hax⟩
                  have hst := hst.trans (hs.mono (hab (Mx + 3) (by omega)))
                  have hop := hidden (opens_any (t := t) (Mx + 6) (by omega) hD0 htH.out.1 hKb.2 (by rw [htH.out.2.2.2.1]; omega) hax.disk)
                  clear hs
                  go_wp2_with fail
                  refine hop.out.mono ?_; rintro e w3 ⟨v3, o3, rfl, hs, py, rfl, hay⟩
                  have hst := hst.trans (hs.mono (hab (Mx + 6) (by omega)))
                  have hax := hax.step hs (fun t h => by
                    change Mx + 6 < t at h
                    exact ⟨by omega, fun h' => by rcases h' with h' | h' | h' | h' <;> omega⟩)
                  obtain ⟨Tx, hTx⟩ : ∃ Tx, textM t.kept.promised t.kept.current t.kept.lines = Tx := ⟨_, rfl⟩
                  have htx := hidden (text_is hax htH.out.2.1 hTx)
                  clear hs hop
                  go_wp2_with fail
                  refine htx.out.mono ?_; rintro e w4 ⟨v4, o4, rfl, hs, rfl⟩
                  have hst := hst.trans (hs.above0 (M := M))
                  have hax := hax.step0 hs
                  have hay := hay.step0 hs
                  have htx := hidden (text_is hay htH.out.2.1 hTx)
                  clear hs
                  go_wp2_with fail
                  refine htx.out.mono ?_; rintro e w5 ⟨v5, o5, rfl, hs, rfl⟩
                  have hst := hst.trans (hs.above0 (M := M))
                  have hax := hax.step0 hs
                  have htx := hidden (text_is hax htH.out.2.1 hTx)
                  clear hs hay
                  go_wp2_with fail
                  refine htx.out.mono ?_; rintro e w6 ⟨v6, o6, rfl, hs, rfl⟩
                  have hst := hst.trans (hs.above0 (M := M))
                  have hax := hax.step0 hs
                  clear hs
                  have hor := htH.out.2.2.2.2
                  rw [hTx] at hor
                  by_cases hTe : Tx = T
                  · rw [hTe]
                    have hRf := hidden (And.intro hax hst)
                    clear hax hst hor hTe hTx htx
                    go_wp2_with fail
                    go_roundw
                    case rel => exact ⟨j + 1, o6, t, px, Mx + 3, by omega, by go_num, rfl, by omega, hRf.out.1, hRf.out.2, htH.out.1.mono hKb.1, htH.out.2.1, by rw [htH.out.2.2.1]; omega, htH.out.2.2.2.1⟩
                    case measure => simp [intOf]; omega
                  · have hTm : Tx = Tm := by
                      rcases hor with h | h
                      · exact absurd h hTe
                      · exact h
                    subst hTm
                    have hne : ((⟨Tx.toArray⟩ : ByteArray).toList == (⟨(T).toArray⟩ : ByteArray).toList) = false := by rw [str_eqb]; simpa using hTe
                    have htx := hidden (text_is hax htH.out.2.1 hTx)
                    have hneq : ¬ Tx = T := hTe
                    clear hor hTe hTx
                    go_wp2_with fail
                    refine htx.out.mono ?_; rintro e w7 ⟨v7, o7, rfl, hs, rfl⟩
                    have hst := hst.trans (hs.above0 (M := M))
                    have hax := hax.step0 hs
                    have hRf := hidden (And.intro hax hst)
                    clear hs hax hst
                    go_wp2_with fail
                    go_roundw
                    case rel => exact ⟨j + 1, o7, t, px, Mx + 3, by omega, by go_num, rfl, by omega, hRf.out.1, hRf.out.2, htH.out.1.mono hKb.1, htH.out.2.1, by rw [htH.out.2.2.1]; omega, htH.out.2.2.2.1⟩
                    case measure => simp [intOf]; omega
              · have hlI : ((q : Int) == (L : Int) - 1) = false := by simp; omega
                obtain ⟨sB, hsB⟩ : ∃ sB : StoreM, s = sB := ⟨_, rfl⟩
                rw [hsB] at ha hG hpl hk0 hT hlf
                obtain ⟨wb, hwb⟩ : ∃ wb, wr = wb := ⟨_, rfl⟩
                obtain ⟨ob, hob⟩ : ∃ ob, oq = ob := ⟨_, rfl⟩
                rw [hwb, hob] at ha hst
                rw [hwb] at cL ⊢
                clear hsB hwb hob
                have hld := hidden (load99 (hA.out wb ob hst).1)
                have hal := hidden (run_alloc_zero (P := Try.prog) wb 99 _ zc99)
                have hsw := setCells_alloc_whole wb #[.int .u8 0, .int .u64 0, .slice none 0 0] 99 [.int .u8 (a.k : Int), .int .u64 (a.e.toNat : Int), .slice la2 n2 lc2] rfl
                obtain ⟨hso, -⟩ := run_store_agg (P := Try.prog) (ty := 99) (vs := [.int .u8 (a.k : Int), .int .u64 (a.e.toNat : Int), .slice la2 n2 lc2]) (heap_alloc_new wb (.cells [.int .u8 0, .int .u64 0, .slice none 0 0].toArray 99)) rfl (by kernel_rfl) rfl
                rw [hsw] at hso
                have hsoH := hidden hso
                have sE := (Step.refl Nobody wb ob).alloc (.cells [.int .u8 (a.k : Int), .int .u64 (a.e.toNat : Int), .slice la2 n2 lc2].toArray 99) (0, 0)
                have bE : (wb.alloc (.cells [.int .u8 (a.k : Int), .int .u64 (a.e.toNat : Int), .slice la2 n2 lc2].toArray 99)).heap[wb.heap.size]? = some (.cells [.int .u8 (a.k : Int), .int .u64 (a.e.toNat : Int), .slice la2 n2 lc2].toArray 99 (0, 0)) := heap_alloc_new wb _
                have tE : (tagAt ob wb.heap.size (0, 0)) wb.heap.size = (0, 0) := tagAt_same _ _ _
                obtain ⟨wc, hwc⟩ : ∃ wc, wb.alloc (.cells [.int .u8 (a.k : Int), .int .u64 (a.e.toNat : Int), .slice la2 n2 lc2].toArray 99) = wc := ⟨_, rfl⟩
                obtain ⟨oc, hoc⟩ : ∃ oc, tagAt ob wb.heap.size (0, 0) = oc := ⟨_, rfl⟩
                obtain ⟨ga, hga⟩ : ∃ ga, wb.heap.size = ga := ⟨_, rfl⟩
                rw [hwc] at hsoH sE bE
                rw [hoc] at sE tE
                rw [hga] at hal hsoH bE tE
                have hld2 := hidden (load99 (a := a) (range_whole bE))
                have ha := ha.step0 sE
                have hst := hst.trans (sE.above0 (M := M))
                have hsH := hidden (And.intro hG (And.intro hk0 (And.intro hpl hT)))
                have hbEH := hidden (And.intro bE tE)
                have hlnB := (hA.out wc oc hst).2
                have hdo := hidden (does_any ht.out ha hG hk0 a hk5 hlnB hn2H.out)
                have hgaH := hidden hga
                clear hsw hso sE bE tE hwc hoc hga hlnB
                rcases StoreM.act_cases hG (by omega) hk0 a with ⟨q1, q2, q3⟩ | ⟨q0, s', q1, q2, q3, q4, q5⟩ | ⟨q0, q1, q2⟩ | ⟨q0, q9, q1, s', q2, q3, q4, q5, q6, q7, q8⟩
                · rw [q3] at hdo
                  have htx := fun (W : World) (O : Own) (h : StoreAt W O (Mx + 1) (Mx + 2) (Mx + 3) D ps pd 0 sB) => text_is h hsH.out.2.1 hsH.out.2.2.2
                  have htxH := hidden htx
                  clear q1 q2 q3 hG hk0 hpl hT htx ha
                  go_wp2_with (first
                    | ((with_reducible refine lit_load_at hld.out ?_ ?_); rfl; simp only [Act.put, List.setIfInBounds_toArray, List.set_cons_zero, List.set_cons_succ])
                    | ((with_reducible refine lit_alloc_at hal.out ?_); simp only [Act.put, List.setIfInBounds_toArray, List.set_cons_zero, List.set_cons_succ])
                    | ((with_reducible refine lit_store_at hsoH.out ?_ ?_ ?_); rfl; rfl; simp only [Act.put])
                    | ((with_reducible refine lit_load_at hld2.out ?_ ?_); rfl; simp only [Act.put, List.setIfInBounds_toArray, List.set_cons_zero, List.set_cons_succ]))
                  refine hdo.out.mono ?_; rintro e w3 ⟨v3, o3, rfl, hs3, rfl, ha3⟩
                  have hst3 := hst.trans (hs3.mono hMxM)
                  have htx := hidden (htxH.out w3 o3 ha3)
                  clear hs3 hdo hst
                  go_wp2_with fail
                  refine htx.out.mono ?_; rintro e w4 ⟨v4, o4, rfl, hs4, rfl⟩
                  have hRf := hidden (And.intro (ha3.step0 hs4) (hst3.trans (hs4.above0 (M := M))))
                  clear hs4 ha3 hst3 htx
                  go_wp2_with fail
                  go_roundw
                  case rel => exact ⟨q + 1, o4, sB, T, by omega, by go_num, rfl, rfl, hRf.out.1, hRf.out.2, hsH.out.1.mono (by omega), hsH.out.2.1, fun _ => hlf, hsH.out.2.2.1, hsH.out.2.2.2⟩
                  case measure => simp [intOf]; omega
                · rw [q1] at hdo
                  have hk1 : KOk s'.kept := by rw [q3]; exact hk0.next a
                  obtain ⟨T1, hT1⟩ : ∃ T1, textM s'.kept.promised s'.kept.current s'.kept.lines = T1 := ⟨_, rfl⟩
                  have hs1H := hidden (And.intro q2 (And.intro hk1 (And.intro (q4.trans hpl) (And.intro hT1 q5))))
                  clear q0 q1 q2 q3 q4 q5 hG hk0 hpl hT ha hk1 hT1
                  go_wp2_with (first
                    | ((with_reducible refine lit_load_at hld.out ?_ ?_); rfl; simp only [Act.put, List.setIfInBounds_toArray, List.set_cons_zero, List.set_cons_succ])
                    | ((with_reducible refine lit_alloc_at hal.out ?_); simp only [Act.put, List.setIfInBounds_toArray, List.set_cons_zero, List.set_cons_succ])
                    | ((with_reducible refine lit_store_at hsoH.out ?_ ?_ ?_); rfl; rfl; simp only [Act.put])
                    | ((with_reducible refine lit_load_at hld2.out ?_ ?_); rfl; simp only [Act.put, List.setIfInBounds_toArray, List.set_cons_zero, List.set_cons_succ]))
                  refine hdo.out.mono ?_; rintro e w3 ⟨v3, o3, rfl, hs3, rfl, ha3⟩
                  have hst3 := hst.trans (hs3.mono hMxM)
                  have htx := hidden (text_is ha3 hs1H.out.2.1 hs1H.out.2.2.2.1)
                  clear hs3 hdo hst
                  go_wp2_with fail
                  refine htx.out.mono ?_; rintro e w4 ⟨v4, o4, rfl, hs4, rfl⟩
                  have ha4 := ha3.step0 hs4
                  have hst4 := hst3.trans (hs4.above0 (M := M))
                  have htx := hidden (text_is ha4 hs1H.out.2.1 hs1H.out.2.2.2.1)
                  clear hs4 ha3 hst3
                  go_wp2_with fail
                  refine htx.out.mono ?_; rintro e w5 ⟨v5, o5, rfl, hs5, rfl⟩
                  have hRf := hidden (And.intro (ha4.step0 hs5) (hst4.trans (hs5.above0 (M := M))))
                  clear hs5 ha4 hst4 htx
                  go_wp2_with fail
                  go_roundw
                  case rel => exact ⟨q + 1, o5, s', T1, by omega, by go_num, rfl, rfl, hRf.out.1, hRf.out.2, hs1H.out.1.mono (by omega), hs1H.out.2.1, fun _ => hs1H.out.2.2.2.2 hlf, hs1H.out.2.2.1, hs1H.out.2.2.2.1⟩
                  case measure => simp [intOf]; omega
                · rw [q1] at hdo
                  have htx := fun (W : World) (O : Own) (h : StoreAt W O (Mx + 1) (Mx + 2) (Mx + 3) D ps pd 0 sB) => text_is h hsH.out.2.1 hsH.out.2.2.2
                  have htxH := hidden htx
                  clear q1 q2 q0 hG hk0 hpl hT htx ha
                  go_wp2_with (first
                    | ((with_reducible refine lit_load_at hld.out ?_ ?_); rfl; simp only [Act.put, List.setIfInBounds_toArray, List.set_cons_zero, List.set_cons_succ])
                    | ((with_reducible refine lit_alloc_at hal.out ?_); simp only [Act.put, List.setIfInBounds_toArray, List.set_cons_zero, List.set_cons_succ])
                    | ((with_reducible refine lit_store_at hsoH.out ?_ ?_ ?_); rfl; rfl; simp only [Act.put])
                    | ((with_reducible refine lit_load_at hld2.out ?_ ?_); rfl; simp only [Act.put, List.setIfInBounds_toArray, List.set_cons_zero, List.set_cons_succ]))
                  refine hdo.out.mono ?_; rintro e w3 ⟨v3, o3, rfl, hs3, rfl, ha3⟩
                  have hst3 := hst.trans (hs3.mono hMxM)
                  have htx := hidden (htxH.out w3 o3 ha3)
                  clear hs3 hdo hst
                  go_wp2_with fail
                  refine htx.out.mono ?_; rintro e w4 ⟨v4, o4, rfl, hs4, rfl⟩
                  have hRf := hidden (And.intro (ha3.step0 hs4) (hst3.trans (hs4.above0 (M := M))))
                  clear hs4 ha3 hst3 htx
                  go_wp2_with fail
                  go_roundw
                  case rel => exact ⟨q + 1, o4, sB, T, by omega, by go_num, rfl, rfl, hRf.out.1, hRf.out.2, hsH.out.1.mono (by omega), hsH.out.2.1, fun _ => hlf, hsH.out.2.2.1, hsH.out.2.2.2⟩
                  case measure => simp [intOf]; omega
                · omega
            · obtain rfl : q = L := by omega
              have hpk := hidden (And.intro hG (And.intro hk0 hpl))
              clear hG hk0 hpl
              have hkl := kill_any ha.disk
              have htF : ∃ t, SG (800 * j + 3 * q) H t ∧ KOk t.kept ∧ t.d = s.d.kill.restart r.fates ∧ t.d.left = -1 ∧ t.d.pages.length = n ∧ (textM t.kept.promised t.kept.current t.kept.lines = T ∨ textM t.kept.promised t.kept.current t.kept.lines = T) :=
                ⟨{ s with d := { s.d with left := -1 } }, hpk.out.1.relit (-1) (by omega), hpk.out.2.1, (restart_still hpk.out.1.dd hpk.out.1.row r.fates).symm, rfl, hpk.out.2.2, .inl hT⟩
              have hrow : s.d.row.length ≤ 1000000 := by rw [hpk.out.1.row]; simp
              obtain ⟨Tm, hTm⟩ : ∃ Tm, T = Tm := ⟨_, rfl⟩
              have htF : ∃ t, SG (800 * j + 3 * q) H t ∧ KOk t.kept ∧ t.d = s.d.kill.restart r.fates ∧ t.d.left = -1 ∧ t.d.pages.length = n ∧ (textM t.kept.promised t.kept.current t.kept.lines = T ∨ textM t.kept.promised t.kept.current t.kept.lines = Tm) := by rw [← hTm]; exact htF
              have hKb : 800 * j + 3 * q ≤ 800 * (j + 1) ∧ 800 * j + 3 * q < 65536 := by omega
              have hqLI : ¬ (q : Int) < (q : Int) := by omega
              clear hT hpk
              rw [hTm]
              have hTmH := hidden hTm
              rw [hTm] at htF
              clear hTm
              go_wp2_with fail
              refine hkl.mono ?_; rintro e wk ⟨vk, ok, rfl, hs, rfl, hd⟩
              have hst := hst.trans (hs.mono hDM)
              obtain ⟨t, hGt, hkt, htd, htl, htp, htT⟩ := htF
              have hre := hidden (restart_is hd hD0 (show s.d.kill.row.length ≤ 1000000 from hrow) (.slice fa F fc) r.fates (hcF.out wk ok hst).2 hrokH.out.2 htd.symm)
              have cF := (hcF.out wk ok hst).1
              have htH := hidden (And.intro hGt (And.intro hkt (And.intro htl (And.intro htp htT))))
              clear hkl hs hd ha hGt hkt htd htl htp htT hrow
              go_wp2_with fail
              refine hre.out.mono ?_; rintro e w1 ⟨v1, o1, rfl, hs, rfl, hd⟩
              have hst := hst.trans (hs.mono hDM)
              have hop := hidden (opens_any (t := t) (Mx + 3) (by omega) hD0 htH.out.1 hKb.2 (by rw [htH.out.2.2.2.1]; omega) hd)
              clear hs hd hre cF
              go_wp2_with fail
              refine hop.out.mono ?_; rintro e w2 ⟨v2, o2, rfl, hs, px, rfl, hax⟩
              have hst := hst.trans (hs.mono (hab (Mx + 3) (by omega)))
              have hop := hidden (opens_any (t := t) (Mx + 6) (by omega) hD0 htH.out.1 hKb.2 (by rw [htH.out.2.2.2.1]; omega) hax.disk)
              clear hs
              go_wp2_with fail
              refine hop.out.mono ?_; rintro e w3 ⟨v3, o3, rfl, hs, py, rfl, hay⟩
              have hst := hst.trans (hs.mono (hab (Mx + 6) (by omega)))
              have hax := hax.step hs (fun t h => by
                change Mx + 6 < t at h
                exact ⟨by omega, fun h' => by rcases h' with h' | h' | h' | h' <;> omega⟩)
              obtain ⟨Tx, hTx⟩ : ∃ Tx, textM t.kept.promised t.kept.current t.kept.lines = Tx := ⟨_, rfl⟩
              have htx := hidden (text_is hax htH.out.2.1 hTx)
              clear hs hop
              go_wp2_with fail
              refine htx.out.mono ?_; rintro e w4 ⟨v4, o4, rfl, hs, rfl⟩
              have hst := hst.trans (hs.above0 (M := M))
              have hax := hax.step0 hs
              have hay := hay.step0 hs
              have htx := hidden (text_is hay htH.out.2.1 hTx)
              clear hs
              go_wp2_with fail
              refine htx.out.mono ?_; rintro e w5 ⟨v5, o5, rfl, hs, rfl⟩
              have hst := hst.trans (hs.above0 (M := M))
              have hax := hax.step0 hs
              have htx := hidden (text_is hax htH.out.2.1 hTx)
              clear hs hay
              go_wp2_with fail
              refine htx.out.mono ?_; rintro e w6 ⟨v6, o6, rfl, hs, rfl⟩
              have hst := hst.trans (hs.above0 (M := M))
              have hax := hax.step0 hs
              clear hs
              have hor := htH.out.2.2.2.2
              rw [hTx] at hor
              by_cases hTe : Tx = Tm
              · rw [hTe]
                have hRf := hidden (And.intro hax hst)
                clear hax hst hor hTe hTx htx
                go_wp2_with fail
                go_roundw
                case rel => exact ⟨j + 1, o6, t, px, Mx + 3, by omega, by go_num, rfl, by omega, hRf.out.1, hRf.out.2, htH.out.1.mono hKb.1, htH.out.2.1, by rw [htH.out.2.2.1]; omega, htH.out.2.2.2.1⟩
                case measure => simp [intOf]; omega
              · have hTm : Tx = Tm := by
                  rcases hor with h | h
                  · exact absurd h hTe
                  · exact h
                exact absurd hTm hTe
        · obtain rfl : j = k := by omega
          have hke := keeps_any wr oj
          go_wp2_with fail
          refine hke.mono ?_; rintro e Wc ⟨v, oc, rfl, hs, rfl⟩
          have hst := hst.trans (hs.above0 (M := M))
          clear hs hke
          go_wp2_with fail
          go_ret
          exact ⟨_, oc, rfl, hst.noneAbove hM, rfl⟩
theorem storeKeeps_walk {w : World} {o : Own} (n : Int) {v : Value} {rs : List RunM} (hl : Runs w o v rs) :
    Calls Try.prog 18 #[.int .i64 n, v] w (Ret Nobody w o fun v _ _ => v = .bool true) := by
  by_cases h : (n < 8 ∨ 200 < n) ∨ 8 < rs.length
  · obtain ⟨ba, bc, rfl⟩ := hl.form
    exact storeKeeps_out n rs.length ba bc h
  · obtain ⟨m, rfl⟩ : ∃ m : Nat, n = m := ⟨n.toNat, by omega⟩
    exact storeKeeps_main m (by omega) (by omega) hl (by omega)
end Go.Proofs.YtfgggkheadfiaaaR
