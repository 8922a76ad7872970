/- Contracts of the store's closures: what Append asks first. -/
import Derived.Test.YtfgggkheadfiaaaRSq7
namespace Go.Proofs.YtfgggkheadfiaaaR
open Go Go.RowKit
attribute [local go_sem ↓] Go.wp_at_zero Go.wp_at_succ
section
variable {w : World} {o : Own} {S A B D ps pd base : Nat} {s : StoreM}
set_option maxRecDepth 100000 in
set_option maxHeartbeats 1600000 in
theorem other1_any (h : StoreAt w o S A B D ps pd base s) (sb : Nat) (hs : Box w o sb 90 (.pointer (some ⟨ps, 0, none⟩))) (x : LineM) (bv : Value) (hbv : Bytes w o bv x.b) :
    Calls Try.prog 110 #[.agg #[.int .u64 (x.e.toNat : Int), bv], .pointer (some ⟨sb, 0, none⟩)] w (Ret Nobody w o fun v _ _ => v = .bool (!(x.e == s.kept.current))) := by
  have s1 := (Step.refl Nobody w o).alloc (.cells #[.int .u64 (x.e.toNat : Int), bv] 113) (0, 0)
  have hS2 := h.step0 s1
  have cs := (hs.step s1 (fun h => h)).cell
  have b1 : (w.alloc (.cells #[.int .u64 (x.e.toNat : Int), bv] 113)).heap[w.heap.size]? = some (.cells [.int .u64 (x.e.toNat : Int), bv].toArray 113 (0, 0)) := heap_alloc_new w _
  have c0 := cell_of_block b1 0
  simp only [List.getElem?_cons_zero] at c0
  obtain ⟨X, Y, pa, pb, k, kv, -, hb, -, -, -, -⟩ := hS2
  obtain ⟨⟨-, -, -, -, -, c7, -, -⟩, -⟩ := hb.cells
  have hst := hidden s1.drew
  have hfin := hidden (show ((x.e.toNat : Int) != (s.kept.current.toNat : Int)) = (!(x.e == s.kept.current)) by
    by_cases hh : x.e = s.kept.current
    · rw [hh]; simp
    · have : ¬ (x.e.toNat : Int) = (s.kept.current.toNat : Int) := fun h => hh (BitVec.eq_of_toNat_eq (by omega))
      rw [bne_iff_ne.2 this, beq_eq_false_iff_ne.2 hh]; rfl)
  obtain ⟨r, hr⟩ : ∃ r, (!(x.e == s.kept.current)) = r := ⟨_, rfl⟩
  rw [hr] at hfin ⊢
  obtain ⟨ba, bc, rfl⟩ := slc_form hbv
  generalize s.kept.current.toNat = C at *
  generalize x.e.toNat = E at *
  generalize x.b.length = bl at *
  obtain ⟨W1, hW1⟩ : ∃ W1, w.alloc (.cells #[.int .u64 (E : Int), .slice ba bl bc] 113) = W1 := ⟨_, rfl⟩
  rw [hW1] at hst cs c7 c0
  have hW1H := hidden hW1
  have hS := hidden (And.intro c0 (And.intro cs c7))
  clear hb b1 s1 hs h hW1 c0 cs c7 hr
  go_enter Try.func110, Try.ntmps110
  go_wp2_with fail
  rw [hW1H.out]
  refine wp_region_need (fun w' => w'.cell? ⟨w.heap.size, 0, none⟩ = some (.int .u64 (E : Int)) ∧ w'.cell? ⟨sb, 0, none⟩ = some (.pointer (some ⟨ps, 0, none⟩)) ∧ w'.cell? ⟨ps, 7, none⟩ = some (.int .u64 (C : Int))) (fun _ => true) (by kernel_rfl) hS.out (fun hHeld => ?_)
  refine wpAnyN_tk (i := 0) (v := ?_) rfl (by kernel_rfl) (fun _ _ _ h => h) (Or.inl ⟨by rfl, ?_⟩) (by assumption) ?_
  rotate_left
  · intro w hSw; ((try dsimp only at hSw); go_simp; (try with_reducible rfl))
  simp only [Act.put, List.setIfInBounds_toArray, List.set_cons_zero, List.set_cons_succ]
  refine wpAnyN_tk (i := 1) (v := ?_) rfl (by kernel_rfl) (fun _ _ _ h => h) (Or.inl ⟨by rfl, ?_⟩) (by assumption) ?_
  rotate_left
  · intro w hSw; ((try dsimp only at hSw); go_simp; (try with_reducible rfl))
  simp only [Act.put, List.setIfInBounds_toArray, List.set_cons_zero, List.set_cons_succ]
  refine wpAnyN_tk (i := 2) (v := ?_) rfl (by kernel_rfl) (fun _ _ _ h => h) (Or.inl ⟨by rfl, ?_⟩) (by assumption) ?_
  rotate_left
  · intro w hSw; ((try dsimp only at hSw); go_simp; (try with_reducible rfl))
  simp only [Act.put, List.setIfInBounds_toArray, List.set_cons_zero, List.set_cons_succ]
  refine wpAnyN_tk (i := 3) (v := ?_) rfl (by kernel_rfl) (fun _ _ _ h => h) (Or.inl ⟨by rfl, ?_⟩) (by assumption) ?_
  rotate_left
  · intro w hSw; ((try dsimp only at hSw); go_simp; (try with_reducible rfl))
  simp only [Act.put, List.setIfInBounds_toArray, List.set_cons_zero, List.set_cons_succ]
  refine wpAnyN_tk (i := 4) (v := ?_) rfl (by kernel_rfl) (fun _ _ _ h => h) (Or.inl ⟨by rfl, ?_⟩) (by assumption) ?_
  rotate_left
  · intro w hSw; ((try dsimp only at hSw); go_simp; (try with_reducible rfl))
  simp only [Act.put, List.setIfInBounds_toArray, List.set_cons_zero, List.set_cons_succ]
  refine wpAnyN_tk (i := 5) (v := ?_) rfl (by kernel_rfl) (fun _ _ _ h => h) (Or.inl ⟨by rfl, ?_⟩) (by assumption) ?_
  rotate_left
  · intro w hSw; ((try dsimp only at hSw); go_simp; (try with_reducible rfl))
  simp only [Act.put, List.setIfInBounds_toArray, List.set_cons_zero, List.set_cons_succ]
  refine wpAnyN_tk (i := 6) (v := ?_) rfl (by kernel_rfl) (fun _ _ _ h => h) (Or.inl ⟨by rfl, ?_⟩) (by assumption) ?_
  rotate_left
  · intro w hSw; ((try dsimp only at hSw); go_simp; (try with_reducible rfl))
  simp only [Act.put, List.setIfInBounds_toArray, List.set_cons_zero, List.set_cons_succ]
  refine wpAnyN_tk (i := 7) (v := .bool r) rfl (by kernel_rfl) (fun _ _ _ h => h) (Or.inl ⟨by rfl, fun w hSw => by (try dsimp only at hSw); go_simp; exact hfin.out⟩) (by assumption) ?_
  simp only [Act.put, List.setIfInBounds_toArray, List.set_cons_zero, List.set_cons_succ]
  refine wpAnyN_tk (i := 8) (v := ?_) rfl (by kernel_rfl) (fun _ _ _ h => h) (Or.inl ⟨by rfl, ?_⟩) (by assumption) ?_
  rotate_left
  · intro w hSw; ((try dsimp only at hSw); go_simp; (try with_reducible rfl))
  simp only [Act.put, List.setIfInBounds_toArray, List.set_cons_zero, List.set_cons_succ]
  refine wpAnyN_done (by kernel_rfl) ?_ _
  go_wp2_with fail
  go_ret
  exact ⟨_, _, rfl, hst.out, rfl⟩
set_option maxRecDepth 100000 in
set_option maxHeartbeats 3200000 in
theorem append1_any (h : StoreAt w o S A B D ps pd base s) (sb lb lbase : Nat) (lv : Value) (ls : List LineM) (hs : Box w o sb 90 (.pointer (some ⟨ps, 0, none⟩))) (hlb : Box w o lb 93 lv) (hl : Lines w o lbase lv ls) (hn : ls.length ≤ 100000) (hk : s.kept.lines.length ≤ 1000) :
    Calls Try.prog 109 #[.pointer (some ⟨sb, 0, none⟩), .pointer (some ⟨lb, 0, none⟩)] w (Ret Nobody w o fun v _ _ => v = .bool (s.kept.appendOk ls)) := by
  have hmf : ∀ (fn : Fn) (first cap : Array Value) (w : World), (Instr.makeFunc fn first cap).run Try.prog w = .ok (.func fn first cap) w := fun _ _ _ _ => rfl
  have hgood := hidden (good_any (hl.step (Step.refl Nobody w o).drew (fun h => h)) hn top48)
  have htop : (top48.toNat : Int) = 281474976710656 := by decide
  rw [htop] at hgood
  have hcont := hidden (show ∀ w1 o1, Step Nobody w o w1 o1 → Calls Try.prog 111 #[lv, .func (.func 110) #[] #[.pointer (some ⟨sb, 0, none⟩)]] w1 (Ret Nobody w1 o1 fun v _ _ => v = .bool (ls.any fun x => !(x.e == s.kept.current))) from fun w1 o1 st =>
    contains_any (hl.step st (fun h => h)) hn 110 #[.pointer (some ⟨sb, 0, none⟩)] _ Try.call110 (fun w2 o2 st2 x bv _ hby => other1_any ((h.step0 st).step0 st2) sb ((hs.step st (fun h => h)).step st2 (fun h => h)) x bv hby))
  obtain ⟨X, Y, pa, pb, k, kv, -, hb, hkl, -, -, -⟩ := h
  obtain ⟨ka, kc, rfl⟩ := hkl.form
  obtain ⟨⟨-, -, -, -, -, -, c8, -⟩, -⟩ := hb.cells
  have cs := hs.cell
  have cl := hlb.cell
  obtain ⟨la, lc, rfl⟩ := hl.form
  unfold KeptM.appendOk
  have hst := hidden (Step.refl Nobody w o).drew
  have hS := hidden (And.intro cs (And.intro cl c8))
  have hdr := hidden (show ∀ w1 o1, Step Nobody w.drew o w1 o1 → Step Nobody w o w1 o1 from fun w1 o1 st => (Step.refl Nobody w o).drew.trans st)
  obtain ⟨r, hr⟩ : ∃ r, (!ls.any (badL top48)) = r := ⟨_, rfl⟩
  obtain ⟨q, hq⟩ : ∃ q, (ls.any fun x => !(x.e == s.kept.current)) = q := ⟨_, rfl⟩
  rw [hr] at hgood ⊢
  rw [hq] at hcont ⊢
  generalize s.kept.lines.length = K at *
  generalize ls.length = N at *
  have hKI : (0 : Int) ≤ (K : Int) ∧ (K : Int) ≤ 1000 := by omega
  have hNI : (0 : Int) ≤ (N : Int) ∧ (N : Int) ≤ 100000 := by omega
  have hwr := hidden (show IntKind.i64.wrap (256 - (K : Int)) = 256 - (K : Int) from wrap_i64 (by omega) (by omega))
  clear hb hs cs c8 cl hr hl hlb htop hq hkl
  by_cases h0 : 0 < N
  · have h0I : (0 : Int) < (N : Int) := by omega
    by_cases h1 : N + K ≤ 256
    · have h1I : (N : Int) ≤ 256 - (K : Int) := by omega
      cases r with
      | true =>
        have hfin := hidden (show (decide (0 < N) && decide (N + K ≤ 256) && true && !q) = (!q) by simp [h0, h1])
        clear h0 h1
        go_enter Try.func109, Try.ntmps109
        go_wp2_with fail
        refine wp_region_need (fun w' => w'.cell? ⟨sb, 0, none⟩ = some (.pointer (some ⟨ps, 0, none⟩)) ∧ w'.cell? ⟨lb, 0, none⟩ = some (.slice la N lc) ∧ w'.cell? ⟨ps, 8, none⟩ = some (.slice ka K kc)) (fun _ => true) (by kernel_rfl) hS.out (fun hHeld => ?_)
        refine wpAnyN_tk (i := 0) (v := ?_) rfl (by kernel_rfl) (fun _ _ _ h => h) (Or.inl ⟨by rfl, ?_⟩) (by assumption) ?_
        rotate_left
        · intro w hSw; ((try dsimp only at hSw); go_simp; (try with_reducible rfl))
        simp only [Act.put, List.setIfInBounds_toArray, List.set_cons_zero, List.set_cons_succ]
        refine wpAnyN_tk (i := 1) (v := ?_) rfl (by kernel_rfl) (fun _ _ _ h => h) (Or.inl ⟨by rfl, ?_⟩) (by assumption) ?_
        rotate_left
        · intro w hSw; ((try dsimp only at hSw); go_simp; (try with_reducible rfl))
        simp only [Act.put, List.setIfInBounds_toArray, List.set_cons_zero, List.set_cons_succ]
        refine wpAnyN_tk (i := 2) (v := .bool true) rfl (by kernel_rfl) (fun _ _ _ h => h) (Or.inl ⟨by rfl, fun w hSw => by (try dsimp only at hSw); go_simp; all_goals omega⟩) (by assumption) ?_
        simp only [Act.put, List.setIfInBounds_toArray, List.set_cons_zero, List.set_cons_succ]
        refine wpAnyN_tk (i := 3) (v := ?_) rfl (by kernel_rfl) (fun _ _ _ h => h) (Or.inl ⟨by rfl, ?_⟩) (by assumption) ?_
        rotate_left
        · intro w hSw; ((try dsimp only at hSw); go_simp; (try with_reducible rfl))
        simp only [Act.put, List.setIfInBounds_toArray, List.set_cons_zero, List.set_cons_succ]
        refine wpAnyN_tk (i := 4) (v := ?_) rfl (by kernel_rfl) (fun _ _ _ h => h) (Or.inl ⟨by rfl, ?_⟩) (by assumption) ?_
        rotate_left
        · intro w hSw; ((try dsimp only at hSw); go_simp; (try with_reducible rfl))
        simp only [Act.put, List.setIfInBounds_toArray, List.set_cons_zero, List.set_cons_succ]
        refine wpAnyN_tk (i := 5) (v := ?_) rfl (by kernel_rfl) (fun _ _ _ h => h) (Or.inl ⟨by rfl, ?_⟩) (by assumption) ?_
        rotate_left
        · intro w hSw; ((try dsimp only at hSw); go_simp; (try with_reducible rfl))
        simp only [Act.put, List.setIfInBounds_toArray, List.set_cons_zero, List.set_cons_succ]
        refine wpAnyN_tk (i := 6) (v := ?_) rfl (by kernel_rfl) (fun _ _ _ h => h) (Or.inl ⟨by rfl, ?_⟩) (by assumption) ?_
        rotate_left
        · intro w hSw; ((try dsimp only at hSw); go_simp; (try with_reducible rfl))
        simp only [Act.put, List.setIfInBounds_toArray, List.set_cons_zero, List.set_cons_succ]
        refine wpAnyN_tk (i := 7) (v := ?_) rfl (by kernel_rfl) (fun _ _ _ h => h) (Or.inl ⟨by rfl, ?_⟩) (by assumption) ?_
        rotate_left
        · intro w hSw; ((try dsimp only at hSw); go_simp; (try with_reducible rfl))
        simp only [Act.put, List.setIfInBounds_toArray, List.set_cons_zero, List.set_cons_succ]
        refine wpAnyN_tk (i := 8) (v := ?_) rfl (by kernel_rfl) (fun _ _ _ h => h) (Or.inl ⟨by rfl, ?_⟩) (by assumption) ?_
        rotate_left
        · intro w hSw; ((try dsimp only at hSw); go_simp; (try with_reducible rfl))
        simp only [Act.put, List.setIfInBounds_toArray, List.set_cons_zero, List.set_cons_succ]
        refine wpAnyN_tk (i := 9) (v := ?_) rfl (by kernel_rfl) (fun _ _ _ h => h) (Or.inl ⟨by rfl, ?_⟩) (by assumption) ?_
        rotate_left
        · intro w hSw; ((try dsimp only at hSw); go_simp; (try with_reducible rfl))
        simp only [Act.put, List.setIfInBounds_toArray, List.set_cons_zero, List.set_cons_succ]
        refine wpAnyN_tk (i := 10) (v := ?_) rfl (by kernel_rfl) (fun _ _ _ h => h) (Or.inl ⟨by rfl, ?_⟩) (by assumption) ?_
        rotate_left
        · intro w hSw; ((try dsimp only at hSw); go_simp; (try with_reducible rfl))
        simp only [Act.put, List.setIfInBounds_toArray, List.set_cons_zero, List.set_cons_succ]
        refine wpAnyN_tk (i := 11) (v := ?_) rfl (by kernel_rfl) (fun _ _ _ h => h) (Or.inl ⟨by rfl, ?_⟩) (by assumption) ?_
        rotate_left
        · intro w hSw; ((try dsimp only at hSw); go_simp; (try with_reducible rfl))
        simp only [Act.put, List.setIfInBounds_toArray, List.set_cons_zero, List.set_cons_succ]
        refine wpAnyN_tk (i := 12) (v := .int .i64 (256 - (K : Int))) rfl (by kernel_rfl) (fun _ _ _ h => h) (Or.inl ⟨by rfl, fun w hSw => by (try dsimp only at hSw); go_simp; exact hwr.out⟩) (by assumption) ?_
        simp only [Act.put, List.setIfInBounds_toArray, List.set_cons_zero, List.set_cons_succ]
        refine wpAnyN_tk (i := 13) (v := .bool true) rfl (by kernel_rfl) (fun _ _ _ h => h) (Or.inl ⟨by rfl, fun w hSw => by (try dsimp only at hSw); go_simp; all_goals omega⟩) (by assumption) ?_
        simp only [Act.put, List.setIfInBounds_toArray, List.set_cons_zero, List.set_cons_succ]
        refine wpAnyN_tk (i := 14) (v := .bool true) rfl (by kernel_rfl) (fun _ _ _ h => h) (Or.inl ⟨by rfl, fun w hSw => by (try dsimp only at hSw); go_simp; all_goals omega⟩) (by assumption) ?_
        simp only [Act.put, List.setIfInBounds_toArray, List.set_cons_zero, List.set_cons_succ]
        refine wpAnyN_tk (i := 15) (v := ?_) rfl (by kernel_rfl) (fun _ _ _ h => h) (Or.inl ⟨by rfl, ?_⟩) (by assumption) ?_
        rotate_left
        · intro w hSw; ((try dsimp only at hSw); go_simp; (try with_reducible rfl))
        simp only [Act.put, List.setIfInBounds_toArray, List.set_cons_zero, List.set_cons_succ]
        refine wpAnyN_tk (i := 16) (v := ?_) rfl (by kernel_rfl) (fun _ _ _ h => h) (Or.inl ⟨by rfl, ?_⟩) (by assumption) ?_
        rotate_left
        · intro w hSw; ((try dsimp only at hSw); go_simp; (try with_reducible rfl))
        simp only [Act.put, List.setIfInBounds_toArray, List.set_cons_zero, List.set_cons_succ]
        refine wpAnyN_one (i := 17) rfl (by kernel_rfl) ?_
        go_wp2_with fail
        refine hgood.out.mono ?_; rintro e1 w1 ⟨v1, o1, rfl, hs1, rfl⟩
        have hS1 : w1.cell? ⟨sb, 0, none⟩ = some (.pointer (some ⟨ps, 0, none⟩)) ∧ w1.cell? ⟨lb, 0, none⟩ = some (.slice la N lc) ∧ w1.cell? ⟨ps, 8, none⟩ = some (.slice ka K kc) := by
          obtain ⟨k1, k2, k3⟩ := hHeld
          have hb := fun (a : Nat) (i : Nat) (v : Value) (hc : (w.drew).cell? ⟨a, i, none⟩ = some v) => (World.cell?_of_block (w := w.drew) (w' := w1) (a := ⟨a, i, none⟩) (hs1.block a (World.block_lt_of_cell? (w.drew) ⟨a, i, none⟩ (by rw [hc])) (fun h => h))).trans hc
          exact ⟨hb _ _ _ k1, hb _ _ _ k2, hb _ _ _ k3⟩

        go_wp2_with fail
        refine ⟨fun _ => hS1, ?_⟩
        refine wpAnyN_tk (i := 18) (v := .bool true) rfl (by kernel_rfl) (fun _ _ _ h => h) (Or.inl ⟨by rfl, fun w hSw => by (try dsimp only at hSw); go_simp; all_goals omega⟩) (by assumption) ?_
        simp only [Act.put, List.setIfInBounds_toArray, List.set_cons_zero, List.set_cons_succ]
        refine wpAnyN_tk (i := 19) (v := ?_) rfl (by kernel_rfl) (fun _ _ _ h => h) (Or.inl ⟨by rfl, ?_⟩) (by assumption) ?_
        rotate_left
        · intro w hSw; ((try dsimp only at hSw); go_simp; (try with_reducible rfl))
        simp only [Act.put, List.setIfInBounds_toArray, List.set_cons_zero, List.set_cons_succ]
        refine wpAnyN_tk (i := 20) (v := ?_) rfl (by kernel_rfl) (fun _ _ _ h => h) (Or.inl ⟨by rfl, ?_⟩) (by assumption) ?_
        rotate_left
        · intro w hSw; ((try dsimp only at hSw); go_simp; (try with_reducible rfl))
        simp only [Act.put, List.setIfInBounds_toArray, List.set_cons_zero, List.set_cons_succ]
        refine wpAnyN_tk (i := 21) (v := ?_) rfl (by kernel_rfl) (fun _ _ _ h => h) (Or.inl ⟨by rfl, ?_⟩) (by assumption) ?_
        rotate_left
        · intro w hSw; ((try dsimp only at hSw); go_simp; (try with_reducible rfl))
        simp only [Act.put, List.setIfInBounds_toArray, List.set_cons_zero, List.set_cons_succ]
        refine wpAnyN_one (i := 22) rfl (by kernel_rfl) ?_
        go_wp2_with fail
        refine (hcont.out w1 o1 (hdr.out _ _ hs1)).mono ?_; rintro e1 w2 ⟨v2, o2, rfl, hs2, rfl⟩
        have hS2 : w2.cell? ⟨sb, 0, none⟩ = some (.pointer (some ⟨ps, 0, none⟩)) ∧ w2.cell? ⟨lb, 0, none⟩ = some (.slice la N lc) ∧ w2.cell? ⟨ps, 8, none⟩ = some (.slice ka K kc) := by
          obtain ⟨k1, k2, k3⟩ := hS1
          have hb := fun (a : Nat) (i : Nat) (v : Value) (hc : (w1).cell? ⟨a, i, none⟩ = some v) => (World.cell?_of_block (w := w1) (w' := w2) (a := ⟨a, i, none⟩) (hs2.block a (World.block_lt_of_cell? (w1) ⟨a, i, none⟩ (by rw [hc])) (fun h => h))).trans hc
          exact ⟨hb _ _ _ k1, hb _ _ _ k2, hb _ _ _ k3⟩

        go_wp2_with fail
        refine ⟨fun _ => hS2, ?_⟩
        refine wpAnyN_tk (i := 23) (v := .bool (!q)) rfl (by kernel_rfl) (fun _ _ _ h => h) (Or.inl ⟨by rfl, fun w hSw => by (try dsimp only at hSw); go_simp⟩) (by assumption) ?_
        simp only [Act.put, List.setIfInBounds_toArray, List.set_cons_zero, List.set_cons_succ]
        refine wpAnyN_tk (i := 24) (v := .bool (!q)) rfl (by kernel_rfl) (fun _ _ _ h => h) (Or.inl ⟨by rfl, fun w hSw => by (try dsimp only at hSw); go_simp⟩) (by assumption) ?_
        simp only [Act.put, List.setIfInBounds_toArray, List.set_cons_zero, List.set_cons_succ]
        refine wpAnyN_tk (i := 25) (v := ?_) rfl (by kernel_rfl) (fun _ _ _ h => h) (Or.inl ⟨by rfl, ?_⟩) (by assumption) ?_
        rotate_left
        · intro w hSw; ((try dsimp only at hSw); go_simp; (try with_reducible rfl))
        simp only [Act.put, List.setIfInBounds_toArray, List.set_cons_zero, List.set_cons_succ]
        refine wpAnyN_done (by kernel_rfl) ?_ _
        clear hS1
        clear hS2
        go_wp2_with fail
        go_ret
        exact ⟨_, o2, rfl, (hdr.out _ _ hs1).trans hs2, by rw [hfin.out]; rfl⟩
      | false =>
        have hfin := hidden (show (decide (0 < N) && decide (N + K ≤ 256) && false && !q) = false by simp [h0, h1])
        clear h0 h1
        go_enter Try.func109, Try.ntmps109
        go_wp2_with fail
        refine wp_region_need (fun w' => w'.cell? ⟨sb, 0, none⟩ = some (.pointer (some ⟨ps, 0, none⟩)) ∧ w'.cell? ⟨lb, 0, none⟩ = some (.slice la N lc) ∧ w'.cell? ⟨ps, 8, none⟩ = some (.slice ka K kc)) (fun _ => true) (by kernel_rfl) hS.out (fun hHeld => ?_)
        refine wpAnyN_tk (i := 0) (v := ?_) rfl (by kernel_rfl) (fun _ _ _ h => h) (Or.inl ⟨by rfl, ?_⟩) (by assumption) ?_
        rotate_left
        · intro w hSw; ((try dsimp only at hSw); go_simp; (try with_reducible rfl))
        simp only [Act.put, List.setIfInBounds_toArray, List.set_cons_zero, List.set_cons_succ]
        refine wpAnyN_tk (i := 1) (v := ?_) rfl (by kernel_rfl) (fun _ _ _ h => h) (Or.inl ⟨by rfl, ?_⟩) (by assumption) ?_
        rotate_left
        · intro w hSw; ((try dsimp only at hSw); go_simp; (try with_reducible rfl))
        simp only [Act.put, List.setIfInBounds_toArray, List.set_cons_zero, List.set_cons_succ]
        refine wpAnyN_tk (i := 2) (v := .bool true) rfl (by kernel_rfl) (fun _ _ _ h => h) (Or.inl ⟨by rfl, fun w hSw => by (try dsimp only at hSw); go_simp; all_goals omega⟩) (by assumption) ?_
        simp only [Act.put, List.setIfInBounds_toArray, List.set_cons_zero, List.set_cons_succ]
        refine wpAnyN_tk (i := 3) (v := ?_) rfl (by kernel_rfl) (fun _ _ _ h => h) (Or.inl ⟨by rfl, ?_⟩) (by assumption) ?_
        rotate_left
        · intro w hSw; ((try dsimp only at hSw); go_simp; (try with_reducible rfl))
        simp only [Act.put, List.setIfInBounds_toArray, List.set_cons_zero, List.set_cons_succ]
        refine wpAnyN_tk (i := 4) (v := ?_) rfl (by kernel_rfl) (fun _ _ _ h => h) (Or.inl ⟨by rfl, ?_⟩) (by assumption) ?_
        rotate_left
        · intro w hSw; ((try dsimp only at hSw); go_simp; (try with_reducible rfl))
        simp only [Act.put, List.setIfInBounds_toArray, List.set_cons_zero, List.set_cons_succ]
        refine wpAnyN_tk (i := 5) (v := ?_) rfl (by kernel_rfl) (fun _ _ _ h => h) (Or.inl ⟨by rfl, ?_⟩) (by assumption) ?_
        rotate_left
        · intro w hSw; ((try dsimp only at hSw); go_simp; (try with_reducible rfl))
        simp only [Act.put, List.setIfInBounds_toArray, List.set_cons_zero, List.set_cons_succ]
        refine wpAnyN_tk (i := 6) (v := ?_) rfl (by kernel_rfl) (fun _ _ _ h => h) (Or.inl ⟨by rfl, ?_⟩) (by assumption) ?_
        rotate_left
        · intro w hSw; ((try dsimp only at hSw); go_simp; (try with_reducible rfl))
        simp only [Act.put, List.setIfInBounds_toArray, List.set_cons_zero, List.set_cons_succ]
        refine wpAnyN_tk (i := 7) (v := ?_) rfl (by kernel_rfl) (fun _ _ _ h => h) (Or.inl ⟨by rfl, ?_⟩) (by assumption) ?_
        rotate_left
        · intro w hSw; ((try dsimp only at hSw); go_simp; (try with_reducible rfl))
        simp only [Act.put, List.setIfInBounds_toArray, List.set_cons_zero, List.set_cons_succ]
        refine wpAnyN_tk (i := 8) (v := ?_) rfl (by kernel_rfl) (fun _ _ _ h => h) (Or.inl ⟨by rfl, ?_⟩) (by assumption) ?_
        rotate_left
        · intro w hSw; ((try dsimp only at hSw); go_simp; (try with_reducible rfl))
        simp only [Act.put, List.setIfInBounds_toArray, List.set_cons_zero, List.set_cons_succ]
        refine wpAnyN_tk (i := 9) (v := ?_) rfl (by kernel_rfl) (fun _ _ _ h => h) (Or.inl ⟨by rfl, ?_⟩) (by assumption) ?_
        rotate_left
        · intro w hSw; ((try dsimp only at hSw); go_simp; (try with_reducible rfl))
        simp only [Act.put, List.setIfInBounds_toArray, List.set_cons_zero, List.set_cons_succ]
        refine wpAnyN_tk (i := 10) (v := ?_) rfl (by kernel_rfl) (fun _ _ _ h => h) (Or.inl ⟨by rfl, ?_⟩) (by assumption) ?_
        rotate_left
        · intro w hSw; ((try dsimp only at hSw); go_simp; (try with_reducible rfl))
        simp only [Act.put, List.setIfInBounds_toArray, List.set_cons_zero, List.set_cons_succ]
        refine wpAnyN_tk (i := 11) (v := ?_) rfl (by kernel_rfl) (fun _ _ _ h => h) (Or.inl ⟨by rfl, ?_⟩) (by assumption) ?_
        rotate_left
        · intro w hSw; ((try dsimp only at hSw); go_simp; (try with_reducible rfl))
        simp only [Act.put, List.setIfInBounds_toArray, List.set_cons_zero, List.set_cons_succ]
        refine wpAnyN_tk (i := 12) (v := .int .i64 (256 - (K : Int))) rfl (by kernel_rfl) (fun _ _ _ h => h) (Or.inl ⟨by rfl, fun w hSw => by (try dsimp only at hSw); go_simp; exact hwr.out⟩) (by assumption) ?_
        simp only [Act.put, List.setIfInBounds_toArray, List.set_cons_zero, List.set_cons_succ]
        refine wpAnyN_tk (i := 13) (v := .bool true) rfl (by kernel_rfl) (fun _ _ _ h => h) (Or.inl ⟨by rfl, fun w hSw => by (try dsimp only at hSw); go_simp; all_goals omega⟩) (by assumption) ?_
        simp only [Act.put, List.setIfInBounds_toArray, List.set_cons_zero, List.set_cons_succ]
        refine wpAnyN_tk (i := 14) (v := .bool true) rfl (by kernel_rfl) (fun _ _ _ h => h) (Or.inl ⟨by rfl, fun w hSw => by (try dsimp only at hSw); go_simp; all_goals omega⟩) (by assumption) ?_
        simp only [Act.put, List.setIfInBounds_toArray, List.set_cons_zero, List.set_cons_succ]
        refine wpAnyN_tk (i := 15) (v := ?_) rfl (by kernel_rfl) (fun _ _ _ h => h) (Or.inl ⟨by rfl, ?_⟩) (by assumption) ?_
        rotate_left
        · intro w hSw; ((try dsimp only at hSw); go_simp; (try with_reducible rfl))
        simp only [Act.put, List.setIfInBounds_toArray, List.set_cons_zero, List.set_cons_succ]
        refine wpAnyN_tk (i := 16) (v := ?_) rfl (by kernel_rfl) (fun _ _ _ h => h) (Or.inl ⟨by rfl, ?_⟩) (by assumption) ?_
        rotate_left
        · intro w hSw; ((try dsimp only at hSw); go_simp; (try with_reducible rfl))
        simp only [Act.put, List.setIfInBounds_toArray, List.set_cons_zero, List.set_cons_succ]
        refine wpAnyN_one (i := 17) rfl (by kernel_rfl) ?_
        go_wp2_with fail
        refine hgood.out.mono ?_; rintro e1 w1 ⟨v1, o1, rfl, hs1, rfl⟩
        have hS1 : w1.cell? ⟨sb, 0, none⟩ = some (.pointer (some ⟨ps, 0, none⟩)) ∧ w1.cell? ⟨lb, 0, none⟩ = some (.slice la N lc) ∧ w1.cell? ⟨ps, 8, none⟩ = some (.slice ka K kc) := by
          obtain ⟨k1, k2, k3⟩ := hHeld
          have hb := fun (a : Nat) (i : Nat) (v : Value) (hc : (w.drew).cell? ⟨a, i, none⟩ = some v) => (World.cell?_of_block (w := w.drew) (w' := w1) (a := ⟨a, i, none⟩) (hs1.block a (World.block_lt_of_cell? (w.drew) ⟨a, i, none⟩ (by rw [hc])) (fun h => h))).trans hc
          exact ⟨hb _ _ _ k1, hb _ _ _ k2, hb _ _ _ k3⟩

        go_wp2_with fail
        refine ⟨fun _ => hS1, ?_⟩
        refine wpAnyN_tk (i := 18) (v := .bool false) rfl (by kernel_rfl) (fun _ _ _ h => h) (Or.inl ⟨by rfl, fun w hSw => by (try dsimp only at hSw); go_simp; all_goals omega⟩) (by assumption) ?_
        simp only [Act.put, List.setIfInBounds_toArray, List.set_cons_zero, List.set_cons_succ]
        refine wpAnyN_tk (i := 19) (v := ?_) rfl (by kernel_rfl) (fun _ _ _ h => h) (Or.inl ⟨by rfl, ?_⟩) (by assumption) ?_
        rotate_left
        · intro w hSw; ((try dsimp only at hSw); go_simp; (try with_reducible rfl))
        simp only [Act.put, List.setIfInBounds_toArray, List.set_cons_zero, List.set_cons_succ]
        refine wpAnyN_tk (i := 20) (v := undef) rfl (by kernel_rfl) (fun _ _ _ h => h) (Or.inr ⟨by rfl, rfl⟩) (by assumption) ?_
        simp only [Act.put, List.setIfInBounds_toArray, List.set_cons_zero, List.set_cons_succ]
        refine wpAnyN_tk (i := 21) (v := undef) rfl (by kernel_rfl) (fun _ _ _ h => h) (Or.inr ⟨by rfl, rfl⟩) (by assumption) ?_
        simp only [Act.put, List.setIfInBounds_toArray, List.set_cons_zero, List.set_cons_succ]
        refine wpAnyN_tk (i := 22) (v := undef) rfl (by kernel_rfl) (fun _ _ _ h => h) (Or.inr ⟨by rfl, rfl⟩) (by assumption) ?_
        simp only [Act.put, List.setIfInBounds_toArray, List.set_cons_zero, List.set_cons_succ]
        refine wpAnyN_tk (i := 23) (v := undef) rfl (by kernel_rfl) (fun _ _ _ h => h) (Or.inr ⟨by rfl, rfl⟩) (by assumption) ?_
        simp only [Act.put, List.setIfInBounds_toArray, List.set_cons_zero, List.set_cons_succ]
        refine wpAnyN_tk (i := 24) (v := .bool false) rfl (by kernel_rfl) (fun _ _ _ h => h) (Or.inl ⟨by rfl, fun w hSw => by (try dsimp only at hSw); go_simp; all_goals omega⟩) (by assumption) ?_
        simp only [Act.put, List.setIfInBounds_toArray, List.set_cons_zero, List.set_cons_succ]
        refine wpAnyN_tk (i := 25) (v := ?_) rfl (by kernel_rfl) (fun _ _ _ h => h) (Or.inl ⟨by rfl, ?_⟩) (by assumption) ?_
        rotate_left
        · intro w hSw; ((try dsimp only at hSw); go_simp; (try with_reducible rfl))
        simp only [Act.put, List.setIfInBounds_toArray, List.set_cons_zero, List.set_cons_succ]
        refine wpAnyN_done (by kernel_rfl) ?_ _
        clear hS1
        go_wp2_with fail
        go_ret
        exact ⟨_, o1, rfl, hdr.out _ _ hs1, by rw [hfin.out]; rfl⟩
    · have h1I : ¬ (N : Int) ≤ 256 - (K : Int) := by omega
      have hfin := hidden (show (decide (0 < N) && decide (N + K ≤ 256) && r && !q) = false by simp [h0, h1])
      clear h0 h1
      go_enter Try.func109, Try.ntmps109
      go_wp2_with fail
      refine wp_region_need (fun w' => w'.cell? ⟨sb, 0, none⟩ = some (.pointer (some ⟨ps, 0, none⟩)) ∧ w'.cell? ⟨lb, 0, none⟩ = some (.slice la N lc) ∧ w'.cell? ⟨ps, 8, none⟩ = some (.slice ka K kc)) (fun _ => true) (by kernel_rfl) hS.out (fun hHeld => ?_)
      refine wpAnyN_tk (i := 0) (v := ?_) rfl (by kernel_rfl) (fun _ _ _ h => h) (Or.inl ⟨by rfl, ?_⟩) (by assumption) ?_
      rotate_left
      · intro w hSw; ((try dsimp only at hSw); go_simp; (try with_reducible rfl))
      simp only [Act.put, List.setIfInBounds_toArray, List.set_cons_zero, List.set_cons_succ]
      refine wpAnyN_tk (i := 1) (v := ?_) rfl (by kernel_rfl) (fun _ _ _ h => h) (Or.inl ⟨by rfl, ?_⟩) (by assumption) ?_
      rotate_left
      · intro w hSw; ((try dsimp only at hSw); go_simp; (try with_reducible rfl))
      simp only [Act.put, List.setIfInBounds_toArray, List.set_cons_zero, List.set_cons_succ]
      refine wpAnyN_tk (i := 2) (v := .bool true) rfl (by kernel_rfl) (fun _ _ _ h => h) (Or.inl ⟨by rfl, fun w hSw => by (try dsimp only at hSw); go_simp; all_goals omega⟩) (by assumption) ?_
      simp only [Act.put, List.setIfInBounds_toArray, List.set_cons_zero, List.set_cons_succ]
      refine wpAnyN_tk (i := 3) (v := ?_) rfl (by kernel_rfl) (fun _ _ _ h => h) (Or.inl ⟨by rfl, ?_⟩) (by assumption) ?_
      rotate_left
      · intro w hSw; ((try dsimp only at hSw); go_simp; (try with_reducible rfl))
      simp only [Act.put, List.setIfInBounds_toArray, List.set_cons_zero, List.set_cons_succ]
      refine wpAnyN_tk (i := 4) (v := ?_) rfl (by kernel_rfl) (fun _ _ _ h => h) (Or.inl ⟨by rfl, ?_⟩) (by assumption) ?_
      rotate_left
      · intro w hSw; ((try dsimp only at hSw); go_simp; (try with_reducible rfl))
      simp only [Act.put, List.setIfInBounds_toArray, List.set_cons_zero, List.set_cons_succ]
      refine wpAnyN_tk (i := 5) (v := ?_) rfl (by kernel_rfl) (fun _ _ _ h => h) (Or.inl ⟨by rfl, ?_⟩) (by assumption) ?_
      rotate_left
      · intro w hSw; ((try dsimp only at hSw); go_simp; (try with_reducible rfl))
      simp only [Act.put, List.setIfInBounds_toArray, List.set_cons_zero, List.set_cons_succ]
      refine wpAnyN_tk (i := 6) (v := ?_) rfl (by kernel_rfl) (fun _ _ _ h => h) (Or.inl ⟨by rfl, ?_⟩) (by assumption) ?_
      rotate_left
      · intro w hSw; ((try dsimp only at hSw); go_simp; (try with_reducible rfl))
      simp only [Act.put, List.setIfInBounds_toArray, List.set_cons_zero, List.set_cons_succ]
      refine wpAnyN_tk (i := 7) (v := ?_) rfl (by kernel_rfl) (fun _ _ _ h => h) (Or.inl ⟨by rfl, ?_⟩) (by assumption) ?_
      rotate_left
      · intro w hSw; ((try dsimp only at hSw); go_simp; (try with_reducible rfl))
      simp only [Act.put, List.setIfInBounds_toArray, List.set_cons_zero, List.set_cons_succ]
      refine wpAnyN_tk (i := 8) (v := ?_) rfl (by kernel_rfl) (fun _ _ _ h => h) (Or.inl ⟨by rfl, ?_⟩) (by assumption) ?_
      rotate_left
      · intro w hSw; ((try dsimp only at hSw); go_simp; (try with_reducible rfl))
      simp only [Act.put, List.setIfInBounds_toArray, List.set_cons_zero, List.set_cons_succ]
      refine wpAnyN_tk (i := 9) (v := ?_) rfl (by kernel_rfl) (fun _ _ _ h => h) (Or.inl ⟨by rfl, ?_⟩) (by assumption) ?_
      rotate_left
      · intro w hSw; ((try dsimp only at hSw); go_simp; (try with_reducible rfl))
      simp only [Act.put, List.setIfInBounds_toArray, List.set_cons_zero, List.set_cons_succ]
      refine wpAnyN_tk (i := 10) (v := ?_) rfl (by kernel_rfl) (fun _ _ _ h => h) (Or.inl ⟨by rfl, ?_⟩) (by assumption) ?_
      rotate_left
      · intro w hSw; ((try dsimp only at hSw); go_simp; (try with_reducible rfl))
      simp only [Act.put, List.setIfInBounds_toArray, List.set_cons_zero, List.set_cons_succ]
      refine wpAnyN_tk (i := 11) (v := ?_) rfl (by kernel_rfl) (fun _ _ _ h => h) (Or.inl ⟨by rfl, ?_⟩) (by assumption) ?_
      rotate_left
      · intro w hSw; ((try dsimp only at hSw); go_simp; (try with_reducible rfl))
      simp only [Act.put, List.setIfInBounds_toArray, List.set_cons_zero, List.set_cons_succ]
      refine wpAnyN_tk (i := 12) (v := .int .i64 (256 - (K : Int))) rfl (by kernel_rfl) (fun _ _ _ h => h) (Or.inl ⟨by rfl, fun w hSw => by (try dsimp only at hSw); go_simp; exact hwr.out⟩) (by assumption) ?_
      simp only [Act.put, List.setIfInBounds_toArray, List.set_cons_zero, List.set_cons_succ]
      refine wpAnyN_tk (i := 13) (v := .bool false) rfl (by kernel_rfl) (fun _ _ _ h => h) (Or.inl ⟨by rfl, fun w hSw => by (try dsimp only at hSw); go_simp; all_goals omega⟩) (by assumption) ?_
      simp only [Act.put, List.setIfInBounds_toArray, List.set_cons_zero, List.set_cons_succ]
      refine wpAnyN_tk (i := 14) (v := .bool false) rfl (by kernel_rfl) (fun _ _ _ h => h) (Or.inl ⟨by rfl, fun w hSw => by (try dsimp only at hSw); go_simp; all_goals omega⟩) (by assumption) ?_
      simp only [Act.put, List.setIfInBounds_toArray, List.set_cons_zero, List.set_cons_succ]
      refine wpAnyN_tk (i := 15) (v := ?_) rfl (by kernel_rfl) (fun _ _ _ h => h) (Or.inl ⟨by rfl, ?_⟩) (by assumption) ?_
      rotate_left
      · intro w hSw; ((try dsimp only at hSw); go_simp; (try with_reducible rfl))
      simp only [Act.put, List.setIfInBounds_toArray, List.set_cons_zero, List.set_cons_succ]
      refine wpAnyN_tk (i := 16) (v := undef) rfl (by kernel_rfl) (fun _ _ _ h => h) (Or.inr ⟨by rfl, rfl⟩) (by assumption) ?_
      simp only [Act.put, List.setIfInBounds_toArray, List.set_cons_zero, List.set_cons_succ]
      refine wpAnyN_tk (i := 17) (v := undef) rfl (by kernel_rfl) (fun _ _ _ h => h) (Or.inr ⟨by rfl, rfl⟩) (by assumption) ?_
      simp only [Act.put, List.setIfInBounds_toArray, List.set_cons_zero, List.set_cons_succ]
      refine wpAnyN_tk (i := 18) (v := .bool false) rfl (by kernel_rfl) (fun _ _ _ h => h) (Or.inl ⟨by rfl, fun w hSw => by (try dsimp only at hSw); go_simp; all_goals omega⟩) (by assumption) ?_
      simp only [Act.put, List.setIfInBounds_toArray, List.set_cons_zero, List.set_cons_succ]
      refine wpAnyN_tk (i := 19) (v := ?_) rfl (by kernel_rfl) (fun _ _ _ h => h) (Or.inl ⟨by rfl, ?_⟩) (by assumption) ?_
      rotate_left
      · intro w hSw; ((try dsimp only at hSw); go_simp; (try with_reducible rfl))
      simp only [Act.put, List.setIfInBounds_toArray, List.set_cons_zero, List.set_cons_succ]
      refine wpAnyN_tk (i := 20) (v := undef) rfl (by kernel_rfl) (fun _ _ _ h => h) (Or.inr ⟨by rfl, rfl⟩) (by assumption) ?_
      simp only [Act.put, List.setIfInBounds_toArray, List.set_cons_zero, List.set_cons_succ]
      refine wpAnyN_tk (i := 21) (v := undef) rfl (by kernel_rfl) (fun _ _ _ h => h) (Or.inr ⟨by rfl, rfl⟩) (by assumption) ?_
      simp only [Act.put, List.setIfInBounds_toArray, List.set_cons_zero, List.set_cons_succ]
      refine wpAnyN_tk (i := 22) (v := undef) rfl (by kernel_rfl) (fun _ _ _ h => h) (Or.inr ⟨by rfl, rfl⟩) (by assumption) ?_
      simp only [Act.put, List.setIfInBounds_toArray, List.set_cons_zero, List.set_cons_succ]
      refine wpAnyN_tk (i := 23) (v := undef) rfl (by kernel_rfl) (fun _ _ _ h => h) (Or.inr ⟨by rfl, rfl⟩) (by assumption) ?_
      simp only [Act.put, List.setIfInBounds_toArray, List.set_cons_zero, List.set_cons_succ]
      refine wpAnyN_tk (i := 24) (v := .bool false) rfl (by kernel_rfl) (fun _ _ _ h => h) (Or.inl ⟨by rfl, fun w hSw => by (try dsimp only at hSw); go_simp; all_goals omega⟩) (by assumption) ?_
      simp only [Act.put, List.setIfInBounds_toArray, List.set_cons_zero, List.set_cons_succ]
      refine wpAnyN_tk (i := 25) (v := ?_) rfl (by kernel_rfl) (fun _ _ _ h => h) (Or.inl ⟨by rfl, ?_⟩) (by assumption) ?_
      rotate_left
      · intro w hSw; ((try dsimp only at hSw); go_simp; (try with_reducible rfl))
      simp only [Act.put, List.setIfInBounds_toArray, List.set_cons_zero, List.set_cons_succ]
      refine wpAnyN_done (by kernel_rfl) ?_ _
      go_wp2_with fail
      go_ret
      exact ⟨_, o, rfl, hst.out, by rw [hfin.out]; rfl⟩
  · have h0I : ¬ (0 : Int) < (N : Int) := by omega
    have hfin := hidden (show (decide (0 < N) && decide (N + K ≤ 256) && r && !q) = false by simp [h0])
    clear h0
    go_enter Try.func109, Try.ntmps109
    go_wp2_with fail
    refine wp_region_need (fun w' => w'.cell? ⟨sb, 0, none⟩ = some (.pointer (some ⟨ps, 0, none⟩)) ∧ w'.cell? ⟨lb, 0, none⟩ = some (.slice la N lc) ∧ w'.cell? ⟨ps, 8, none⟩ = some (.slice ka K kc)) (fun _ => true) (by kernel_rfl) hS.out (fun hHeld => ?_)
    refine wpAnyN_tk (i := 0) (v := ?_) rfl (by kernel_rfl) (fun _ _ _ h => h) (Or.inl ⟨by rfl, ?_⟩) (by assumption) ?_
    rotate_left
    · intro w hSw; ((try dsimp only at hSw); go_simp; (try with_reducible rfl))
    simp only [Act.put, List.setIfInBounds_toArray, List.set_cons_zero, List.set_cons_succ]
    refine wpAnyN_tk (i := 1) (v := ?_) rfl (by kernel_rfl) (fun _ _ _ h => h) (Or.inl ⟨by rfl, ?_⟩) (by assumption) ?_
    rotate_left
    · intro w hSw; ((try dsimp only at hSw); go_simp; (try with_reducible rfl))
    simp only [Act.put, List.setIfInBounds_toArray, List.set_cons_zero, List.set_cons_succ]
    refine wpAnyN_tk (i := 2) (v := .bool false) rfl (by kernel_rfl) (fun _ _ _ h => h) (Or.inl ⟨by rfl, fun w hSw => by (try dsimp only at hSw); go_simp; all_goals omega⟩) (by assumption) ?_
    simp only [Act.put, List.setIfInBounds_toArray, List.set_cons_zero, List.set_cons_succ]
    refine wpAnyN_tk (i := 3) (v := ?_) rfl (by kernel_rfl) (fun _ _ _ h => h) (Or.inl ⟨by rfl, ?_⟩) (by assumption) ?_
    rotate_left
    · intro w hSw; ((try dsimp only at hSw); go_simp; (try with_reducible rfl))
    simp only [Act.put, List.setIfInBounds_toArray, List.set_cons_zero, List.set_cons_succ]
    refine wpAnyN_tk (i := 4) (v := undef) rfl (by kernel_rfl) (fun _ _ _ h => h) (Or.inr ⟨by rfl, rfl⟩) (by assumption) ?_
    simp only [Act.put, List.setIfInBounds_toArray, List.set_cons_zero, List.set_cons_succ]
    refine wpAnyN_tk (i := 5) (v := undef) rfl (by kernel_rfl) (fun _ _ _ h => h) (Or.inr ⟨by rfl, rfl⟩) (by assumption) ?_
    simp only [Act.put, List.setIfInBounds_toArray, List.set_cons_zero, List.set_cons_succ]
    refine wpAnyN_tk (i := 6) (v := undef) rfl (by kernel_rfl) (fun _ _ _ h => h) (Or.inr ⟨by rfl, rfl⟩) (by assumption) ?_
    simp only [Act.put, List.setIfInBounds_toArray, List.set_cons_zero, List.set_cons_succ]
    refine wpAnyN_tk (i := 7) (v := undef) rfl (by kernel_rfl) (fun _ _ _ h => h) (Or.inr ⟨by rfl, rfl⟩) (by assumption) ?_
    simp only [Act.put, List.setIfInBounds_toArray, List.set_cons_zero, List.set_cons_succ]
    refine wpAnyN_tk (i := 8) (v := undef) rfl (by kernel_rfl) (fun _ _ _ h => h) (Or.inr ⟨by rfl, rfl⟩) (by assumption) ?_
    simp only [Act.put, List.setIfInBounds_toArray, List.set_cons_zero, List.set_cons_succ]
    refine wpAnyN_tk (i := 9) (v := undef) rfl (by kernel_rfl) (fun _ _ _ h => h) (Or.inr ⟨by rfl, rfl⟩) (by assumption) ?_
    simp only [Act.put, List.setIfInBounds_toArray, List.set_cons_zero, List.set_cons_succ]
    refine wpAnyN_tk (i := 10) (v := undef) rfl (by kernel_rfl) (fun _ _ _ h => h) (Or.inr ⟨by rfl, rfl⟩) (by assumption) ?_
    simp only [Act.put, List.setIfInBounds_toArray, List.set_cons_zero, List.set_cons_succ]
    refine wpAnyN_tk (i := 11) (v := undef) rfl (by kernel_rfl) (fun _ _ _ h => h) (Or.inr ⟨by rfl, rfl⟩) (by assumption) ?_
    simp only [Act.put, List.setIfInBounds_toArray, List.set_cons_zero, List.set_cons_succ]
    refine wpAnyN_tk (i := 12) (v := undef) rfl (by kernel_rfl) (fun _ _ _ h => h) (Or.inr ⟨by rfl, rfl⟩) (by assumption) ?_
    simp only [Act.put, List.setIfInBounds_toArray, List.set_cons_zero, List.set_cons_succ]
    refine wpAnyN_tk (i := 13) (v := undef) rfl (by kernel_rfl) (fun _ _ _ h => h) (Or.inr ⟨by rfl, rfl⟩) (by assumption) ?_
    simp only [Act.put, List.setIfInBounds_toArray, List.set_cons_zero, List.set_cons_succ]
    refine wpAnyN_tk (i := 14) (v := .bool false) rfl (by kernel_rfl) (fun _ _ _ h => h) (Or.inl ⟨by rfl, fun w hSw => by (try dsimp only at hSw); go_simp; all_goals omega⟩) (by assumption) ?_
    simp only [Act.put, List.setIfInBounds_toArray, List.set_cons_zero, List.set_cons_succ]
    refine wpAnyN_tk (i := 15) (v := ?_) rfl (by kernel_rfl) (fun _ _ _ h => h) (Or.inl ⟨by rfl, ?_⟩) (by assumption) ?_
    rotate_left
    · intro w hSw; ((try dsimp only at hSw); go_simp; (try with_reducible rfl))
    simp only [Act.put, List.setIfInBounds_toArray, List.set_cons_zero, List.set_cons_succ]
    refine wpAnyN_tk (i := 16) (v := undef) rfl (by kernel_rfl) (fun _ _ _ h => h) (Or.inr ⟨by rfl, rfl⟩) (by assumption) ?_
    simp only [Act.put, List.setIfInBounds_toArray, List.set_cons_zero, List.set_cons_succ]
    refine wpAnyN_tk (i := 17) (v := undef) rfl (by kernel_rfl) (fun _ _ _ h => h) (Or.inr ⟨by rfl, rfl⟩) (by assumption) ?_
    simp only [Act.put, List.setIfInBounds_toArray, List.set_cons_zero, List.set_cons_succ]
    refine wpAnyN_tk (i := 18) (v := .bool false) rfl (by kernel_rfl) (fun _ _ _ h => h) (Or.inl ⟨by rfl, fun w hSw => by (try dsimp only at hSw); go_simp; all_goals omega⟩) (by assumption) ?_
    simp only [Act.put, List.setIfInBounds_toArray, List.set_cons_zero, List.set_cons_succ]
    refine wpAnyN_tk (i := 19) (v := ?_) rfl (by kernel_rfl) (fun _ _ _ h => h) (Or.inl ⟨by rfl, ?_⟩) (by assumption) ?_
    rotate_left
    · intro w hSw; ((try dsimp only at hSw); go_simp; (try with_reducible rfl))
    simp only [Act.put, List.setIfInBounds_toArray, List.set_cons_zero, List.set_cons_succ]
    refine wpAnyN_tk (i := 20) (v := undef) rfl (by kernel_rfl) (fun _ _ _ h => h) (Or.inr ⟨by rfl, rfl⟩) (by assumption) ?_
    simp only [Act.put, List.setIfInBounds_toArray, List.set_cons_zero, List.set_cons_succ]
    refine wpAnyN_tk (i := 21) (v := undef) rfl (by kernel_rfl) (fun _ _ _ h => h) (Or.inr ⟨by rfl, rfl⟩) (by assumption) ?_
    simp only [Act.put, List.setIfInBounds_toArray, List.set_cons_zero, List.set_cons_succ]
    refine wpAnyN_tk (i := 22) (v := undef) rfl (by kernel_rfl) (fun _ _ _ h => h) (Or.inr ⟨by rfl, rfl⟩) (by assumption) ?_
    simp only [Act.put, List.setIfInBounds_toArray, List.set_cons_zero, List.set_cons_succ]
    refine wpAnyN_tk (i := 23) (v := undef) rfl (by kernel_rfl) (fun _ _ _ h => h) (Or.inr ⟨by rfl, rfl⟩) (by assumption) ?_
    simp only [Act.put, List.setIfInBounds_toArray, List.set_cons_zero, List.set_cons_succ]
    refine wpAnyN_tk (i := 24) (v := .bool false) rfl (by kernel_rfl) (fun _ _ _ h => h) (Or.inl ⟨by rfl, fun w hSw => by (try dsimp only at hSw); go_simp; all_goals omega⟩) (by assumption) ?_
    simp only [Act.put, List.setIfInBounds_toArray, List.set_cons_zero, List.set_cons_succ]
    refine wpAnyN_tk (i := 25) (v := ?_) rfl (by kernel_rfl) (fun _ _ _ h => h) (Or.inl ⟨by rfl, ?_⟩) (by assumption) ?_
    rotate_left
    · intro w hSw; ((try dsimp only at hSw); go_simp; (try with_reducible rfl))
    simp only [Act.put, List.setIfInBounds_toArray, List.set_cons_zero, List.set_cons_succ]
    refine wpAnyN_done (by kernel_rfl) ?_ _
    go_wp2_with fail
    go_ret
    exact ⟨_, o, rfl, hst.out, by rw [hfin.out]; rfl⟩
end
end Go.Proofs.YtfgggkheadfiaaaR
/- Contract of the store's write: a record, or, if there is no room, all anew in the other area. -/
namespace Go.Proofs.YtfgggkheadfiaaaR
open Go Go.RowKit
attribute [local go_sem ↓] Go.wp_at_zero Go.wp_at_succ

theorem wrapInc64 (S : BitVec 64) : IntKind.u64.wrap ((S.toNat : Int) + 1) = ((S + 1#64).toNat : Int) := by
  rw [BitVec.toNat_add]
  simp [IntKind.wrap, IntKind.bits, IntKind.signed]
theorem wrapMod64 (S : BitVec 64) : ((S.toNat : Int) + 1) % 18446744073709551616 = ((S + 1#64).toNat : Int) := by
  rw [BitVec.toNat_add]; simp
def StoreM.write (rec : List UInt8) (now : KeptM) (s : StoreM) : StoreM × Int :=
  if 0 < s.age.toNat ∧ rec.length ≤ s.cur.room then
    if (LogM.commit rec (s.cur, s.d)).2 ≠ 0 then ({ s with cur := (LogM.commit rec (s.cur, s.d)).1.1, d := (LogM.commit rec (s.cur, s.d)).1.2, dead := true }, 9)
    else ({ s with cur := (LogM.commit rec (s.cur, s.d)).1.1, d := (LogM.commit rec (s.cur, s.d)).1.2, kept := now }, 0)
  else if 480 * (s.pages - 1) < (allE (s.age + 1#64) now.promised now.current now.lines).length then (s, 4)
  else if (LogM.reset (s.oth, s.d)).2 ≠ 0 then ({ s with oth := (LogM.reset (s.oth, s.d)).1.1, d := (LogM.reset (s.oth, s.d)).1.2, dead := true }, 9)
  else if (LogM.commit (allE (s.age + 1#64) now.promised now.current now.lines) (LogM.reset (s.oth, s.d)).1).2 ≠ 0 then
    ({ s with oth := (LogM.commit (allE (s.age + 1#64) now.promised now.current now.lines) (LogM.reset (s.oth, s.d)).1).1.1, d := (LogM.commit (allE (s.age + 1#64) now.promised now.current now.lines) (LogM.reset (s.oth, s.d)).1).1.2, dead := true }, 9)
  else ({ s with cur := (LogM.commit (allE (s.age + 1#64) now.promised now.current now.lines) (LogM.reset (s.oth, s.d)).1).1.1, oth := s.cur, d := (LogM.commit (allE (s.age + 1#64) now.promised now.current now.lines) (LogM.reset (s.oth, s.d)).1).1.2, age := s.age + 1#64, kept := now }, 0)
theorem LogM.reset_row (s : LogM × DiskM) : (LogM.reset s).1.2.row.length ≤ s.2.row.length + 1 := by
  have h := (LogM.head_same s).2
  unfold LogM.reset LogM.alive
  split
  · exact Nat.le_succ _
  · unfold LogM.steps
    split
    · exact h
    · unfold LogM.steps
      simp only [LogM.reset2, ne_eq, not_true_eq_false, if_false, LogM.steps]
      exact h

/-- What a call that may write leaves: the answer; the store; how new what is kept is. -/
def Wrote (S A B D ps pd base nb : Nat) (Q : StoreM × Int) (v : Value) (w' : World) (o' : Own) : Prop := v = .int .i64 Q.2 ∧ StoreAt w' o' S A B D ps pd (if Q.2 = 0 then nb else base) Q.1
structure Tags (S A B D : Nat) : Prop where
  s0 : S ≠ 0
  a0 : A ≠ 0
  b0 : B ≠ 0
  d0 : D ≠ 0
  sa : S ≠ A
  sb : S ≠ B
  sd : S ≠ D
  ab : A ≠ B
  ad : A ≠ D
  bd : B ≠ D
theorem Tags.perm {S A B D X Y : Nat} (h : Tags S A B D) (hp : (X = A ∧ Y = B) ∨ (X = B ∧ Y = A)) : Tags S X Y D := by
  obtain ⟨h1, h2, h3, h4, h5, h6, h7, h8, h9, h10⟩ := h
  rcases hp with ⟨rfl, rfl⟩ | ⟨rfl, rfl⟩
  · exact ⟨h1, h2, h3, h4, h5, h6, h7, h8, h9, h10⟩
  · exact ⟨h1, h3, h2, h4, h6, h5, h7, fun h => h8 h.symm, h10, h9⟩
theorem In4.perm {S A B D X Y t : Nat} (hp : (X = A ∧ Y = B) ∨ (X = B ∧ Y = A)) (h : In4 S X Y D t) : In4 S A B D t := by
  rcases hp with ⟨rfl, rfl⟩ | ⟨rfl, rfl⟩
  · exact h
  · rcases h with h | h | h | h
    · exact .inl h
    · exact .inr (.inr (.inl h))
    · exact .inr (.inl h)
    · exact .inr (.inr (.inr h))
section
variable {w : World} {o : Own} {S ps pd pa pb k : Nat} {kv : Value} {s : StoreM}
theorem StoreBox.setStep (h : StoreBox w o S ps pd pa pb k kv s) (i : Nat) (v : Value) : Step (Only S) w o (w.setCell ⟨ps, i, none⟩ v) o := by
  obtain ⟨x1, x2, h1, h2, h3⟩ := h
  exact (Step.refl _ w o).setCell v (.inl (by show (o ps).1 = S; rw [h3]))
theorem StoreBox.setDead (h : StoreBox w o S ps pd pa pb k kv s) (b : Bool) : StoreBox (w.setCell ⟨ps, 9, none⟩ (.bool b)) o S ps pd pa pb k kv { s with dead := b } := by
  obtain ⟨x1, x2, h1, h2, h3⟩ := h
  exact ⟨x1, x2, heap_setCell_at (i := 9) _ h1, h2, h3⟩
theorem StoreBox.swap (h : StoreBox w o S ps pd pa pb k kv s) (age : BitVec 64) : StoreBox ((w.setCell ⟨ps, 4, none⟩ (.int .i64 ((1 - k : Nat) : Int))).setCell ⟨ps, 5, none⟩ (.int .u64 (age.toNat : Int))) o S ps pd pb pa (1 - k) kv { s with age := age } := by
  obtain ⟨x1, x2, h1, h2, h3⟩ := h
  refine ⟨x1, x2, heap_setCell_at (i := 5) _ (heap_setCell_at (i := 4) _ h1), ?_, h3⟩
  rcases h2 with ⟨rfl, rfl, rfl⟩ | ⟨rfl, rfl, rfl⟩
  · exact .inr ⟨rfl, rfl, rfl⟩
  · exact .inl ⟨rfl, rfl, rfl⟩
theorem StoreBox.setKept (h : StoreBox w o S ps pd pa pb k kv s) (now : KeptM) (nv : Value) (h1c : ∃ a n c, nv = .slice a n c) :
    StoreBox (w.setCells ps 6 [.int .u64 (now.promised.toNat : Int), .int .u64 (now.current.toNat : Int), nv]) o S ps pd pa pb k nv { s with kept := now } ∧
    (Instr.storeAt 108 (.pointer (some ⟨ps, 6, none⟩)) (keptV now.promised now.current nv)).run Try.prog w = .ok () (w.setCells ps 6 [.int .u64 (now.promised.toNat : Int), .int .u64 (now.current.toNat : Int), nv]) ∧
    Step (Only S) w o (w.setCells ps 6 [.int .u64 (now.promised.toNat : Int), .int .u64 (now.current.toNat : Int), nv]) o := by
  obtain ⟨x1, x2, h1, h2, h3⟩ := h
  refine ⟨⟨x1, x2, ?_, h2, h3⟩, ?_, (Step.refl (Only S) w o).setCells ps 6 _ (.inl (by rw [h3]; rfl))⟩
  · exact heap_setCells_same ps 156 _ 6 w _ h1 (by simp [storeCells])
  · exact run_storeAt_mid w ps 6 108 #[.int .u64 (now.promised.toNat : Int), .int .u64 (now.current.toNat : Int), nv] (there_of_block h1 6 3 (by simp [storeCells])) size108 (by obtain ⟨a, n, c, rfl⟩ := h1c; simp [Value.oneCell'])
end

set_option maxRecDepth 100000 in
set_option maxHeartbeats 12800000 in
theorem swrite_any {w : World} {o : Own} {S A B D ps pd base nb : Nat} {s : StoreM} (ht : Tags S A B D) (h : StoreAt w o S A B D ps pd base s) (hrow : s.d.row.length ≤ 600000) (hpg : 1 ≤ s.pages ∧ s.pages ≤ 4096) (rv : Value) (rec : List UInt8) (hr : Bytes w o rv rec) (hcap : capLe rv) (hr1 : 1 ≤ rec.length) (hr2 : rec.length ≤ 4000000)
    (now : KeptM) (nv : Value) (hnow : Lines w o nb nv now.lines) (hsm : small now.lines) :
    Calls Try.prog 103 #[.pointer (some ⟨ps, 0, none⟩), rv, keptV now.promised now.current nv] w (Ret (In4 S A B D) w o fun v w' o' => Wrote S A B D ps pd base nb (s.write rec now) v w' o') := by
  obtain ⟨X, Y, pa, pb, k, kv, hp, hb, hkl, hla, hlb, hd⟩ := h
  have hmono : ∀ t, In4 S X Y D t → In4 S A B D t := fun t => In4.perm hp
  have hT := ht.perm hp
  clear ht
  suffices H : Calls Try.prog 103 #[.pointer (some ⟨ps, 0, none⟩), rv, keptV now.promised now.current nv] w (Ret (In4 S X Y D) w o fun v w' o' => Wrote S X Y D ps pd base nb (s.write rec now) v w' o') by
    refine H.mono ?_
    rintro e w' ⟨v, o', rfl, hst, hv, X', Y', pa', pb', k', kv', hp', rest⟩
    refine ⟨v, o', rfl, hst.mono hmono, hv, X', Y', pa', pb', k', kv', ?_, rest⟩
    rcases hp with ⟨rfl, rfl⟩ | ⟨rfl, rfl⟩
    · exact hp'
    · exact hp'.symm
  clear hmono hp A B
  obtain ⟨na, nc, rfl⟩ := hnow.form
  obtain ⟨ra, rc, rfl⟩ := slc_form hr
  have nX0 : ¬ In X D 0 := fun h => by rcases h with h | h; exact hT.a0 h.symm; exact hT.d0 h.symm
  have nY0 : ¬ In Y D 0 := fun h => by rcases h with h | h; exact hT.b0 h.symm; exact hT.d0 h.symm
  have nXS : ¬ In X D S := fun h => by rcases h with h | h; exact hT.sa h; exact hT.sd h
  have nYS : ¬ In Y D S := fun h => by rcases h with h | h; exact hT.sb h; exact hT.sd h
  have nXY : ¬ In X D Y := fun h => by rcases h with h | h; exact hT.ab h.symm; exact hT.bd h
  have nYX : ¬ In Y D X := fun h => by rcases h with h | h; exact hT.ab h; exact hT.ad h
  have nS0 : ¬ Only S 0 := fun h => hT.s0 h.symm
  have nSX : ¬ Only S X := fun h => hT.sa h.symm
  have nSY : ¬ Only S Y := fun h => hT.sb h.symm
  have nSD : ¬ Only S D := fun h => hT.sd h.symm
  have mX : ∀ t, In X D t → In4 S X Y D t := fun t h => by rcases h with h | h; exact .inr (.inl h); exact .inr (.inr (.inr h))
  have mY : ∀ t, In Y D t → In4 S X Y D t := fun t h => by rcases h with h | h; exact .inr (.inr (.inl h)); exact .inr (.inr (.inr h))
  have mS : ∀ t, Only S t → In4 S X Y D t := fun t h => .inl h
  replace mX := hidden mX
  replace mY := hidden mY
  replace mS := hidden mS
  replace hT := hidden hT
  have nn : ∀ t, ¬ Nobody t := fun _ h => h
  -- the box of 'now'
  obtain ⟨n1, hn1⟩ : ∃ n1, now.lines.length = n1 := ⟨_, rfl⟩
  have s1 := (Step.refl Nobody w o).alloc (.cells #[.int .u64 (now.promised.toNat : Int), .int .u64 (now.current.toNat : Int), .slice na now.lines.length nc] 108) (0, 0)
  have b1 : (w.alloc (.cells #[.int .u64 (now.promised.toNat : Int), .int .u64 (now.current.toNat : Int), .slice na now.lines.length nc] 108)).heap[w.heap.size]? = some (.cells [.int .u64 (now.promised.toNat : Int), .int .u64 (now.current.toNat : Int), .slice na now.lines.length nc].toArray 108 (0, 0)) := heap_alloc_new w _
  have t1 : tagAt o w.heap.size (0, 0) w.heap.size = (0, 0) := tagAt_same _ _ _
  obtain ⟨bx, hbx⟩ : ∃ bx, w.heap.size = bx := ⟨_, rfl⟩
  obtain ⟨W1, hW1⟩ : ∃ W1, w.alloc (.cells #[.int .u64 (now.promised.toNat : Int), .int .u64 (now.current.toNat : Int), .slice na now.lines.length nc] 108) = W1 := ⟨_, rfl⟩
  rw [hW1] at s1 b1
  rw [hbx] at s1 b1 t1
  generalize tagAt o bx (0, 0) = o1 at *
  replace hb := hb.step s1 (nn _)
  replace hkl := hkl.step s1 (nn _)
  replace hla := hla.step s1 (nn _) (nn _)
  replace hlb := hlb.step s1 (nn _) (nn _)
  replace hd := hd.step s1 (nn _)
  replace hr := hr.step s1 (nn _)
  replace hnow := hnow.step s1 (nn _)
  obtain ⟨⟨c0, c3, c4, c5, -, -, -, c9⟩, ⟨cA, cB⟩, hfz, hk1, hpl, hpo, -⟩ := hb.cells
  have hkI : (k : Int) < 2 := by omega
  have hroomA := hidden (room_any hla)
  obtain ⟨RM, hRM⟩ : ∃ RM, s.cur.room = RM := ⟨_, rfl⟩
  rw [hRM] at hroomA
  obtain ⟨Q, hQ⟩ : ∃ Q, s.write rec now = Q := ⟨_, rfl⟩
  have hQH := hidden hQ
  have hRMH := hidden hRM
  have hbH := hidden hb
  have hklH := hidden hkl
  have hlaH := hidden hla
  have hlbH := hidden hlb
  have hdH := hidden hd
  have hrH := hidden hr
  have hnowH := hidden hnow
  have hs1H := hidden s1
  have hW1H := hidden hW1
  have hbxH := hidden hbx
  have hsmH := hidden hsm
  have hRMI : (RM : Int) ≤ 960000 := by
    have := hla.wf; rw [← hRM]; unfold LogM.room; obtain ⟨g1, g2, g3, g4, g5, g6, g7⟩ := this; omega
  rw [hQ]
  obtain ⟨R, hR⟩ : ∃ R, rec.length = R := ⟨_, rfl⟩
  have hRH := hidden hR
  rw [hR] at hr1 hr2 hcap ⊢
  have hRI : (1 : Int) ≤ (R : Int) ∧ (R : Int) ≤ 4000000 := by omega
  have hrow2 : (LogM.reset (s.oth, s.d)).1.2.row.length ≤ 700000 := by have := LogM.reset_row (s.oth, s.d); simp only at this; omega
  have hrowH := hidden hrow2
  have hS2H := hidden (And.intro c5 (And.intro c4 cA))
  clear hb hkl hla hlb hd hr hnow s1 hW1 hbx hsm hQ hRM hR hrow2 cA cB c0 c3 c4 c5 c9 hn1 n1
  rw [hRH.out] at hrH
  unfold keptV
  by_cases hage : 0 < s.age.toNat
  · have hageI : (0 : Int) < (s.age.toNat : Int) := by omega
    by_cases hroom : R ≤ RM
    · have hroomI : (R : Int) ≤ (RM : Int) := by omega
      have hroomP : (0 : Int) < (RM : Int) := by omega
      clear hr1 hr2
      go_enter Try.func103, Try.ntmps103
      go_wp2_with fail
      rw [hW1H.out]
      refine wp_region_need (fun w' => w'.cell? ⟨ps, 5, none⟩ = some (.int .u64 (s.age.toNat : Int)) ∧ w'.cell? ⟨ps, 4, none⟩ = some (.int .i64 (k : Int)) ∧ w'.cell? ⟨ps, 1 + k, none⟩ = some (.pointer (some ⟨pa, 0, none⟩))) (fun _ => true) (by kernel_rfl) hS2H.out (fun hHeld => ?_)
      refine wpAnyN_tk (i := 0) (v := ?_) rfl (by kernel_rfl) (fun _ _ _ h => h) (Or.inl ⟨by rfl, ?_⟩) (by assumption) ?_
      rotate_left
      · intro w hSw; ((try dsimp only at hSw); go_simp; (try with_reducible rfl))
      simp only [Act.put, List.setIfInBounds_toArray, List.set_cons_zero, List.set_cons_succ]
      refine wpAnyN_tk (i := 1) (v := ?_) rfl (by kernel_rfl) (fun _ _ _ h => h) (Or.inl ⟨by rfl, ?_⟩) (by assumption) ?_
      rotate_left
      · intro w hSw; ((try dsimp only at hSw); go_simp; (try with_reducible rfl))
      simp only [Act.put, List.setIfInBounds_toArray, List.set_cons_zero, List.set_cons_succ]
      refine wpAnyN_tk (i := 2) (v := ?_) rfl (by kernel_rfl) (fun _ _ _ h => h) (Or.inl ⟨by rfl, ?_⟩) (by assumption) ?_
      rotate_left
      · intro w hSw; ((try dsimp only at hSw); go_simp; (try with_reducible rfl))
      simp only [Act.put, List.setIfInBounds_toArray, List.set_cons_zero, List.set_cons_succ]
      refine wpAnyN_tk (i := 3) (v := ?_) rfl (by kernel_rfl) (fun _ _ _ h => h) (Or.inl ⟨by rfl, ?_⟩) (by assumption) ?_
      rotate_left
      · intro w hSw; ((try dsimp only at hSw); go_simp; (try with_reducible rfl))
      simp only [Act.put, List.setIfInBounds_toArray, List.set_cons_zero, List.set_cons_succ]
      refine wpAnyN_tk (i := 4) (v := .bool true) rfl (by kernel_rfl) (fun _ _ _ h => h) (Or.inl ⟨by rfl, fun w hSw => by (try dsimp only at hSw); go_simp; all_goals omega⟩) (by assumption) ?_
      simp only [Act.put, List.setIfInBounds_toArray, List.set_cons_zero, List.set_cons_succ]
      refine wpAnyN_tk (i := 5) (v := ?_) rfl (by kernel_rfl) (fun _ _ _ h => h) (Or.inl ⟨by rfl, ?_⟩) (by assumption) ?_
      rotate_left
      · intro w hSw; ((try dsimp only at hSw); go_simp; (try with_reducible rfl))
      simp only [Act.put, List.setIfInBounds_toArray, List.set_cons_zero, List.set_cons_succ]
      refine wpAnyN_tk (i := 6) (v := ?_) rfl (by kernel_rfl) (fun _ _ _ h => h) (Or.inl ⟨by rfl, ?_⟩) (by assumption) ?_
      rotate_left
      · intro w hSw; ((try dsimp only at hSw); go_simp; (try with_reducible rfl))
      simp only [Act.put, List.setIfInBounds_toArray, List.set_cons_zero, List.set_cons_succ]
      refine wpAnyN_tk (i := 7) (v := ?_) rfl (by kernel_rfl) (fun _ _ _ h => h) (Or.inl ⟨by rfl, ?_⟩) (by assumption) ?_
      rotate_left
      · intro w hSw; ((try dsimp only at hSw); go_simp; (try with_reducible rfl))
      simp only [Act.put, List.setIfInBounds_toArray, List.set_cons_zero, List.set_cons_succ]
      refine wpAnyN_tk (i := 8) (v := ?_) rfl (by kernel_rfl) (fun _ _ _ h => h) (Or.inl ⟨by rfl, ?_⟩) (by assumption) ?_
      rotate_left
      · intro w hSw; ((try dsimp only at hSw); go_simp; (try with_reducible rfl))
      simp only [Act.put, List.setIfInBounds_toArray, List.set_cons_zero, List.set_cons_succ]
      refine wpAnyN_tk (i := 9) (v := ?_) rfl (by kernel_rfl) (fun _ _ _ h => h) (Or.inl ⟨by rfl, ?_⟩) (by assumption) ?_
      rotate_left
      · intro w hSw; ((try dsimp only at hSw); go_simp; (try with_reducible rfl))
      simp only [Act.put, List.setIfInBounds_toArray, List.set_cons_zero, List.set_cons_succ]
      refine wpAnyN_tk (i := 10) (v := ?_) rfl (by kernel_rfl) (fun _ _ _ h => h) (Or.inl ⟨by rfl, ?_⟩) (by assumption) ?_
      rotate_left
      · intro w hSw; ((try dsimp only at hSw); go_simp; (try with_reducible rfl))
      simp only [Act.put, List.setIfInBounds_toArray, List.set_cons_zero, List.set_cons_succ]
      refine wpAnyN_tk (i := 11) (v := ?_) rfl (by kernel_rfl) (fun _ _ _ h => h) (Or.inl ⟨by rfl, ?_⟩) (by assumption) ?_
      rotate_left
      · intro w hSw; ((try dsimp only at hSw); go_simp; (try with_reducible rfl))
      simp only [Act.put, List.setIfInBounds_toArray, List.set_cons_zero, List.set_cons_succ]
      refine wpAnyN_tk (i := 12) (v := ?_) rfl (by kernel_rfl) (fun _ _ _ h => h) (Or.inl ⟨by rfl, ?_⟩) (by assumption) ?_
      rotate_left
      · intro w hSw; ((try dsimp only at hSw); go_simp; (try with_reducible rfl))
      simp only [Act.put, List.setIfInBounds_toArray, List.set_cons_zero, List.set_cons_succ]
      refine wpAnyN_tk (i := 13) (v := ?_) rfl (by kernel_rfl) (fun _ _ _ h => h) (Or.inl ⟨by rfl, ?_⟩) (by assumption) ?_
      rotate_left
      · intro w hSw; ((try dsimp only at hSw); go_simp; (try with_reducible rfl))
      simp only [Act.put, List.setIfInBounds_toArray, List.set_cons_zero, List.set_cons_succ]
      refine wpAnyN_tk (i := 14) (v := ?_) rfl (by kernel_rfl) (fun _ _ _ h => h) (Or.inl ⟨by rfl, ?_⟩) (by assumption) ?_
      rotate_left
      · intro w hSw; ((try dsimp only at hSw); go_simp; (try with_reducible rfl))
      simp only [Act.put, List.setIfInBounds_toArray, List.set_cons_zero, List.set_cons_succ]
      refine wpAnyN_tk (i := 15) (v := ?_) rfl (by kernel_rfl) (fun _ _ _ h => h) (Or.inl ⟨by rfl, ?_⟩) (by assumption) ?_
      rotate_left
      · intro w hSw; ((try dsimp only at hSw); go_simp; (try with_reducible rfl))
      simp only [Act.put, List.setIfInBounds_toArray, List.set_cons_zero, List.set_cons_succ]
      refine wpAnyN_tk (i := 16) (v := ?_) rfl (by kernel_rfl) (fun _ _ _ h => h) (Or.inl ⟨by rfl, ?_⟩) (by assumption) ?_
      rotate_left
      · intro w hSw; ((try dsimp only at hSw); go_simp; (try with_reducible rfl))
      simp only [Act.put, List.setIfInBounds_toArray, List.set_cons_zero, List.set_cons_succ]
      refine wpAnyN_one (i := 17) rfl (by kernel_rfl) ?_
      go_wp2_with fail
      have hdr := (Step.refl Nobody W1 o1).drew
      refine (room_is (hlaH.out.step hdr (nn _) (nn _)) RM hRMH.out).mono ?_; rintro e w2 ⟨v2, o2, rfl, hs2, rfl⟩
      have hs2 : Step Nobody W1 o1 w2 o2 := hdr.trans hs2
      have hS2 : w2.cell? ⟨ps, 5, none⟩ = some (.int .u64 (s.age.toNat : Int)) ∧ w2.cell? ⟨ps, 4, none⟩ = some (.int .i64 (k : Int)) ∧ w2.cell? ⟨ps, 1 + k, none⟩ = some (.pointer (some ⟨pa, 0, none⟩)) := by
        obtain ⟨k1, k2, k3⟩ := hS2H.out
        have hb := fun (i : Nat) (v : Value) (hc : (W1).cell? ⟨ps, i, none⟩ = some v) => (World.cell?_of_block (w := W1) (w' := w2) (a := ⟨ps, i, none⟩) (hs2.block ps hpl (nn _))).trans hc
        exact ⟨hb _ _ k1, hb _ _ k2, hb _ _ k3⟩

      go_wp2_with fail
      refine ⟨fun _ => hS2, ?_⟩
      refine wpAnyN_tk (i := 18) (v := .bool true) rfl (by kernel_rfl) (fun _ _ _ h => h) (Or.inl ⟨by rfl, fun w hSw => by (try dsimp only at hSw); go_simp; all_goals omega⟩) (by assumption) ?_
      simp only [Act.put, List.setIfInBounds_toArray, List.set_cons_zero, List.set_cons_succ]
      refine wpAnyN_tk (i := 19) (v := .bool true) rfl (by kernel_rfl) (fun _ _ _ h => h) (Or.inl ⟨by rfl, fun w hSw => by (try dsimp only at hSw); go_simp; all_goals omega⟩) (by assumption) ?_
      simp only [Act.put, List.setIfInBounds_toArray, List.set_cons_zero, List.set_cons_succ]
      refine wpAnyN_tk (i := 20) (v := ?_) rfl (by kernel_rfl) (fun _ _ _ h => h) (Or.inl ⟨by rfl, ?_⟩) (by assumption) ?_
      rotate_left
      · intro w hSw; ((try dsimp only at hSw); go_simp; (try with_reducible rfl))
      simp only [Act.put, List.setIfInBounds_toArray, List.set_cons_zero, List.set_cons_succ]
      refine wpAnyN_tk (i := 21) (v := ?_) rfl (by kernel_rfl) (fun _ _ _ h => h) (Or.inl ⟨by rfl, ?_⟩) (by assumption) ?_
      rotate_left
      · intro w hSw; ((try dsimp only at hSw); go_simp; (try with_reducible rfl))
      simp only [Act.put, List.setIfInBounds_toArray, List.set_cons_zero, List.set_cons_succ]
      refine wpAnyN_tk (i := 22) (v := ?_) rfl (by kernel_rfl) (fun _ _ _ h => h) (Or.inl ⟨by rfl, ?_⟩) (by assumption) ?_
      rotate_left
      · intro w hSw; ((try dsimp only at hSw); go_simp; (try with_reducible rfl))
      simp only [Act.put, List.setIfInBounds_toArray, List.set_cons_zero, List.set_cons_succ]
      refine wpAnyN_tk (i := 23) (v := ?_) rfl (by kernel_rfl) (fun _ _ _ h => h) (Or.inl ⟨by rfl, ?_⟩) (by assumption) ?_
      rotate_left
      · intro w hSw; ((try dsimp only at hSw); go_simp; (try with_reducible rfl))
      simp only [Act.put, List.setIfInBounds_toArray, List.set_cons_zero, List.set_cons_succ]
      refine wpAnyN_tk (i := 24) (v := ?_) rfl (by kernel_rfl) (fun _ _ _ h => h) (Or.inl ⟨by rfl, ?_⟩) (by assumption) ?_
      rotate_left
      · intro w hSw; ((try dsimp only at hSw); go_simp; (try with_reducible rfl))
      simp only [Act.put, List.setIfInBounds_toArray, List.set_cons_zero, List.set_cons_succ]
      refine wpAnyN_tk (i := 25) (v := ?_) rfl (by kernel_rfl) (fun _ _ _ h => h) (Or.inl ⟨by rfl, ?_⟩) (by assumption) ?_
      rotate_left
      · intro w hSw; ((try dsimp only at hSw); go_simp; (try with_reducible rfl))
      simp only [Act.put, List.setIfInBounds_toArray, List.set_cons_zero, List.set_cons_succ]
      refine wpAnyN_tk (i := 26) (v := ?_) rfl (by kernel_rfl) (fun _ _ _ h => h) (Or.inl ⟨by rfl, ?_⟩) (by assumption) ?_
      rotate_left
      · intro w hSw; ((try dsimp only at hSw); go_simp; (try with_reducible rfl))
      simp only [Act.put, List.setIfInBounds_toArray, List.set_cons_zero, List.set_cons_succ]
      refine wpAnyN_tk (i := 27) (v := ?_) rfl (by kernel_rfl) (fun _ _ _ h => h) (Or.inl ⟨by rfl, ?_⟩) (by assumption) ?_
      rotate_left
      · intro w hSw; ((try dsimp only at hSw); go_simp; (try with_reducible rfl))
      simp only [Act.put, List.setIfInBounds_toArray, List.set_cons_zero, List.set_cons_succ]
      refine wpAnyN_tk (i := 28) (v := ?_) rfl (by kernel_rfl) (fun _ _ _ h => h) (Or.inl ⟨by rfl, ?_⟩) (by assumption) ?_
      rotate_left
      · intro w hSw; ((try dsimp only at hSw); go_simp; (try with_reducible rfl))
      simp only [Act.put, List.setIfInBounds_toArray, List.set_cons_zero, List.set_cons_succ]
      refine wpAnyN_tk (i := 29) (v := ?_) rfl (by kernel_rfl) (fun _ _ _ h => h) (Or.inl ⟨by rfl, ?_⟩) (by assumption) ?_
      rotate_left
      · intro w hSw; ((try dsimp only at hSw); go_simp; (try with_reducible rfl))
      simp only [Act.put, List.setIfInBounds_toArray, List.set_cons_zero, List.set_cons_succ]
      refine wpAnyN_one (i := 30) rfl (by kernel_rfl) ?_
      go_wp2_with fail
      refine (room_is (hlaH.out.step hs2 (nn _) (nn _)) RM hRMH.out).mono ?_; rintro e w3 ⟨v3, o3, rfl, hs3, rfl⟩
      have hs3 : Step Nobody W1 o1 w3 o3 := hs2.trans hs3
      have hS3 : w3.cell? ⟨ps, 5, none⟩ = some (.int .u64 (s.age.toNat : Int)) ∧ w3.cell? ⟨ps, 4, none⟩ = some (.int .i64 (k : Int)) ∧ w3.cell? ⟨ps, 1 + k, none⟩ = some (.pointer (some ⟨pa, 0, none⟩)) := by
        obtain ⟨k1, k2, k3⟩ := hS2H.out
        have hb := fun (i : Nat) (v : Value) (hc : (W1).cell? ⟨ps, i, none⟩ = some v) => (World.cell?_of_block (w := W1) (w' := w3) (a := ⟨ps, i, none⟩) (hs3.block ps hpl (nn _))).trans hc
        exact ⟨hb _ _ k1, hb _ _ k2, hb _ _ k3⟩

      go_wp2_with fail
      refine ⟨fun _ => hS3, ?_⟩
      refine wpAnyN_tk (i := 31) (v := .bool true) rfl (by kernel_rfl) (fun _ _ _ h => h) (Or.inl ⟨by rfl, fun w hSw => by (try dsimp only at hSw); go_simp; all_goals omega⟩) (by assumption) ?_
      simp only [Act.put, List.setIfInBounds_toArray, List.set_cons_zero, List.set_cons_succ]
      refine wpAnyN_tk (i := 32) (v := .bool true) rfl (by kernel_rfl) (fun _ _ _ h => h) (Or.inl ⟨by rfl, fun w hSw => by (try dsimp only at hSw); go_simp; all_goals omega⟩) (by assumption) ?_
      simp only [Act.put, List.setIfInBounds_toArray, List.set_cons_zero, List.set_cons_succ]
      refine wpAnyN_done (by kernel_rfl) ?_ _
      have hpl3 : ps < w3.heap.size := Nat.lt_of_lt_of_le hpl hs3.size
      have hpo3 : (o3 ps).1 = S := by rw [hs3.own ps hpl]; exact hpo
      have hbx3 := (hs3.block bx (lt_of_block b1) (nn _)).trans b1
      have htx3 := (hs3.own bx (lt_of_block b1)).trans t1
      have hld3 : LD w3 o3 X D pa pd (s.cur, s.d) := ⟨hlaH.out.step hs3 (nn _) (nn _), hdH.out.step hs3 (nn _)⟩
      have hr3 := hrH.out.step hs3 (nn _)
      obtain ⟨⟨⟨l', d'⟩, e⟩, hC⟩ : ∃ q, LogM.commit rec (s.cur, s.d) = q := ⟨_, rfl⟩
      have hcm := hidden (fun (W : World) (O : Own) (st : Step Nobody w3 o3 W O) => commit_is hT.out.a0 hT.out.d0 hT.out.ad (hld3.step st (nn _) (nn _) (nn _)) (by show s.d.row.length ≤ _; omega) rec _ (hr3.step st (nn _)) hcap (by rw [hRH.out]; omega) hC)
      have hQ2 : Q = if e ≠ 0 then ({ s with cur := l', d := d', dead := true }, 9) else ({ s with cur := l', d := d', kept := now }, 0) := by
        rw [← hQH.out]; unfold StoreM.write; rw [hC, if_pos ⟨hage, by rw [hRH.out, hRMH.out]; exact hroom⟩]
      replace hQ2 := hidden hQ2
      have hst0 := hidden ((hs1H.out.trans hs3).mono (T' := In4 S X Y D) (fun _ h => h.elim))
      clear hS2 hHeld hld3 hr3 hC hroomA hs2
      go_wp2_with fail
      refine wp_region_need (fun w' => w'.cell? ⟨ps, 5, none⟩ = some (.int .u64 (s.age.toNat : Int)) ∧ w'.cell? ⟨ps, 4, none⟩ = some (.int .i64 (k : Int)) ∧ w'.cell? ⟨ps, 1 + k, none⟩ = some (.pointer (some ⟨pa, 0, none⟩))) (fun _ => true) (by kernel_rfl) hS3 (fun hHeld => ?_)
      refine wpAnyN_tk (i := 0) (v := ?_) rfl (by kernel_rfl) (fun _ _ _ h => h) (Or.inl ⟨by rfl, ?_⟩) (by assumption) ?_
      rotate_left
      · intro w hSw; ((try dsimp only at hSw); go_simp; (try with_reducible rfl))
      simp only [Act.put, List.setIfInBounds_toArray, List.set_cons_zero, List.set_cons_succ]
      refine wpAnyN_tk (i := 1) (v := ?_) rfl (by kernel_rfl) (fun _ _ _ h => h) (Or.inl ⟨by rfl, ?_⟩) (by assumption) ?_
      rotate_left
      · intro w hSw; ((try dsimp only at hSw); go_simp; (try with_reducible rfl))
      simp only [Act.put, List.setIfInBounds_toArray, List.set_cons_zero, List.set_cons_succ]
      refine wpAnyN_tk (i := 2) (v := ?_) rfl (by kernel_rfl) (fun _ _ _ h => h) (Or.inl ⟨by rfl, ?_⟩) (by assumption) ?_
      rotate_left
      · intro w hSw; ((try dsimp only at hSw); go_simp; (try with_reducible rfl))
      simp only [Act.put, List.setIfInBounds_toArray, List.set_cons_zero, List.set_cons_succ]
      refine wpAnyN_tk (i := 3) (v := ?_) rfl (by kernel_rfl) (fun _ _ _ h => h) (Or.inl ⟨by rfl, ?_⟩) (by assumption) ?_
      rotate_left
      · intro w hSw; ((try dsimp only at hSw); go_simp; (try with_reducible rfl))
      simp only [Act.put, List.setIfInBounds_toArray, List.set_cons_zero, List.set_cons_succ]
      refine wpAnyN_tk (i := 4) (v := ?_) rfl (by kernel_rfl) (fun _ _ _ h => h) (Or.inl ⟨by rfl, ?_⟩) (by assumption) ?_
      rotate_left
      · intro w hSw; ((try dsimp only at hSw); go_simp; (try with_reducible rfl))
      simp only [Act.put, List.setIfInBounds_toArray, List.set_cons_zero, List.set_cons_succ]
      refine wpAnyN_tk (i := 5) (v := ?_) rfl (by kernel_rfl) (fun _ _ _ h => h) (Or.inl ⟨by rfl, ?_⟩) (by assumption) ?_
      rotate_left
      · intro w hSw; ((try dsimp only at hSw); go_simp; (try with_reducible rfl))
      simp only [Act.put, List.setIfInBounds_toArray, List.set_cons_zero, List.set_cons_succ]
      refine wpAnyN_tk (i := 6) (v := ?_) rfl (by kernel_rfl) (fun _ _ _ h => h) (Or.inl ⟨by rfl, ?_⟩) (by assumption) ?_
      rotate_left
      · intro w hSw; ((try dsimp only at hSw); go_simp; (try with_reducible rfl))
      simp only [Act.put, List.setIfInBounds_toArray, List.set_cons_zero, List.set_cons_succ]
      refine wpAnyN_tk (i := 7) (v := ?_) rfl (by kernel_rfl) (fun _ _ _ h => h) (Or.inl ⟨by rfl, ?_⟩) (by assumption) ?_
      rotate_left
      · intro w hSw; ((try dsimp only at hSw); go_simp; (try with_reducible rfl))
      simp only [Act.put, List.setIfInBounds_toArray, List.set_cons_zero, List.set_cons_succ]
      refine wpAnyN_tk (i := 8) (v := ?_) rfl (by kernel_rfl) (fun _ _ _ h => h) (Or.inl ⟨by rfl, ?_⟩) (by assumption) ?_
      rotate_left
      · intro w hSw; ((try dsimp only at hSw); go_simp; (try with_reducible rfl))
      simp only [Act.put, List.setIfInBounds_toArray, List.set_cons_zero, List.set_cons_succ]
      refine wpAnyN_tk (i := 9) (v := ?_) rfl (by kernel_rfl) (fun _ _ _ h => h) (Or.inl ⟨by rfl, ?_⟩) (by assumption) ?_
      rotate_left
      · intro w hSw; ((try dsimp only at hSw); go_simp; (try with_reducible rfl))
      simp only [Act.put, List.setIfInBounds_toArray, List.set_cons_zero, List.set_cons_succ]
      refine wpAnyN_one (i := 10) rfl (by kernel_rfl) ?_
      go_wp2_with fail
      have hdr := (Step.refl Nobody w3 o3).drew
      refine (hcm.out _ o3 hdr).mono ?_; rintro e1 w4 ⟨v4, o4, rfl, hs4, rfl, hld4⟩
      have hs4 : Step (In X D) w3 o3 w4 o4 := hdr.in0.trans hs4
      have hS4 : w4.cell? ⟨ps, 5, none⟩ = some (.int .u64 (s.age.toNat : Int)) ∧ w4.cell? ⟨ps, 4, none⟩ = some (.int .i64 (k : Int)) ∧ w4.cell? ⟨ps, 1 + k, none⟩ = some (.pointer (some ⟨pa, 0, none⟩)) := by
        obtain ⟨k1, k2, k3⟩ := hS3
        have hb := fun (i : Nat) (v : Value) (hc : (w3).cell? ⟨ps, i, none⟩ = some v) => (World.cell?_of_block (w := w3) (w' := w4) (a := ⟨ps, i, none⟩) (hs4.block ps hpl3 (by rw [hpo3]; exact nXS))).trans hc
        exact ⟨hb _ _ k1, hb _ _ k2, hb _ _ k3⟩

      clear hHeld hcm
      go_wp2_with fail
      refine ⟨fun _ => hS4, ?_⟩
      refine wpAnyN_tk (i := 11) (v := ?_) rfl (by kernel_rfl) (fun _ _ _ h => h) (Or.inl ⟨by rfl, ?_⟩) (by assumption) ?_
      rotate_left
      · intro w hSw; ((try dsimp only at hSw); go_simp; (try with_reducible rfl))
      simp only [Act.put, List.setIfInBounds_toArray, List.set_cons_zero, List.set_cons_succ]
      refine wpAnyN_done (by kernel_rfl) ?_ _
      have hb4 := (hbH.out.step hs3 (nn _)).step hs4 nXS
      have hkl4 := (hklH.out.step hs3 (nn _)).step hs4 nX0
      have hlb4 := (hlbH.out.step hs3 (nn _) (nn _)).step hs4 nXY nX0
      have hnow4 := (hnowH.out.step hs3 (nn _)).step hs4 nX0
      have hbx4 := (hs4.block bx (lt_of_block hbx3) (by rw [htx3]; exact nX0)).trans hbx3
      have hstA := hidden (hst0.out.trans (hs4.mono mX.out))
      clear hS4 hS3 hs4 hs3
      by_cases he : e = 0
      · subst he
        have hQ2 : Hid (Q = ({ s with cur := l', d := d', kept := now }, 0)) := hidden (by rw [hQ2.out]; rfl)
        have hlo := hidden (show (Instr.loadAt 108 (.pointer (some ⟨w.heap.size, 0, none⟩))).run Try.prog w4 = .ok (.agg #[.int .u64 (now.promised.toNat : Int), .int .u64 (now.current.toNat : Int), .slice na now.lines.length nc]) w4 from load108at (range_whole (by rw [hbxH.out]; exact hbx4)))
        obtain ⟨hbN, hso, hstS⟩ := hb4.setKept now (.slice na now.lines.length nc) ⟨_, _, _, rfl⟩
        have hsoH := hidden (show (Instr.storeAt 108 (.pointer (some ⟨ps, 6, none⟩)) (.agg #[.int .u64 (now.promised.toNat : Int), .int .u64 (now.current.toNat : Int), .slice na now.lines.length nc])).run Try.prog w4 = .ok () _ from hso)
        have hF := hidden (show StoreAt (w4.setCells ps 6 [.int .u64 (now.promised.toNat : Int), .int .u64 (now.current.toNat : Int), .slice na now.lines.length nc]) o4 S X Y D ps pd nb Q.1 from by rw [hQ2.out]; exact ⟨X, Y, pa, pb, k, _, .inl ⟨rfl, rfl⟩, hbN, hnow4.step hstS nS0, hld4.1.step hstS nSX nS0, hlb4.step hstS nSY nS0, hld4.2.step hstS nSD⟩)
        have hstF := hidden (hstA.out.trans (hstS.mono mS.out))
        have hQ9 := hidden (show Q.2 = 0 by rw [hQ2.out])
        clear hbN hso hstS
        go_wp2_with (first
          | ((with_reducible apply lit_load); exact hlo.out; simp only [Act.put, List.setIfInBounds_toArray, List.set_cons_zero, List.set_cons_succ])
          | ((with_reducible apply lit_store); exact hsoH.out; simp only [Act.put]))
        go_ret
        exact ⟨_, o4, rfl, hstF.out, by rw [hQ9.out]; rfl, by (rw [if_pos hQ9.out]; exact hF.out)⟩
      · have hQ2 : Hid (Q = ({ s with cur := l', d := d', dead := true }, 9)) := hidden (by rw [hQ2.out, if_pos he])
        have heI : (e == 0) = false := by simpa using he
        obtain ⟨⟨-, -, -, -, -, -, -, c9⟩, -, hfz9, -⟩ := hb4.cells
        have hfz9 := hfz9 9
        have hbD := hb4.setDead true
        have hstS := hb4.setStep 9 (.bool true)
        have hF := hidden (show StoreAt (w4.setCell ⟨ps, 9, none⟩ (.bool true)) o4 S X Y D ps pd base Q.1 from by rw [hQ2.out]; exact ⟨X, Y, pa, pb, k, kv, .inl ⟨rfl, rfl⟩, hbD, hkl4.step hstS nS0, hld4.1.step hstS nSX nS0, hlb4.step hstS nSY nS0, hld4.2.step hstS nSD⟩)
        have hstF := hidden (hstA.out.trans (hstS.mono mS.out))
        have hQ9 := hidden (show Q.2 = 9 by rw [hQ2.out])
        clear hbD hstS
        go_wp2_with fail
        go_ret
        exact ⟨_, o4, rfl, hstF.out, by rw [hQ9.out]; rfl, by (rw [if_neg (by rw [hQ9.out]; omega)]; exact hF.out)⟩
    · have hroomI : ¬ (R : Int) ≤ (RM : Int) := by omega
      have hno : ¬ (0 < s.age.toNat ∧ rec.length ≤ s.cur.room) := by rw [hRH.out, hRMH.out]; omega
      obtain ⟨j, hj⟩ : ∃ j, 1 - k = j := ⟨_, rfl⟩
      have hjI : (1 : Int) - (k : Int) = (j : Int) := by omega
      have hj2 : (j : Int) < 2 := by omega
      obtain ⟨AE, hAE⟩ : ∃ AE, allE (s.age + 1#64) now.promised now.current now.lines = AE := ⟨_, rfl⟩
      have hall := hidden (fun (W : World) (O : Own) (st : Step Nobody W1 o1 W O) => all_any (hnowH.out.step st (nn _)) (by have := hsmH.out.1; omega) (by have := hsmH.out.2; omega) (p := now.promised) (c := now.current) (s.age + 1#64))
      rw [hAE] at hall
      have hAEl : AE.length ≤ 1400000 := by
        rw [← hAE]
        have := hsmH.out.2
        simp [allE, encL, length_be]; omega
      have hwa := wrapInc64 s.age
      obtain ⟨AL, hAL⟩ : ∃ AL, AE.length = AL := ⟨_, rfl⟩
      rw [hAL] at hAEl
      have hALI : (0 : Int) ≤ (AL : Int) ∧ (AL : Int) ≤ 1400000 := by omega
      have hpgI : (1 : Int) ≤ (s.pages : Int) ∧ (s.pages : Int) ≤ 4096 := by omega
      have hAEH := hidden hAE
      have hALH := hidden hAL
      have hnoH := hidden hno
      have hjH := hidden hj
      clear hr1 hr2 hroomA hAE hAL hno hAEl hj
      go_enter Try.func103, Try.ntmps103
      go_wp2_with fail
      rw [hW1H.out]
      refine wp_region_need (fun w' => w'.cell? ⟨ps, 5, none⟩ = some (.int .u64 (s.age.toNat : Int)) ∧ w'.cell? ⟨ps, 4, none⟩ = some (.int .i64 (k : Int)) ∧ w'.cell? ⟨ps, 1 + k, none⟩ = some (.pointer (some ⟨pa, 0, none⟩))) (fun _ => true) (by kernel_rfl) hS2H.out (fun hHeld => ?_)
      refine wpAnyN_tk (i := 0) (v := ?_) rfl (by kernel_rfl) (fun _ _ _ h => h) (Or.inl ⟨by rfl, ?_⟩) (by assumption) ?_
      rotate_left
      · intro w hSw; ((try dsimp only at hSw); go_simp; (try with_reducible rfl))
      simp only [Act.put, List.setIfInBounds_toArray, List.set_cons_zero, List.set_cons_succ]
      refine wpAnyN_tk (i := 1) (v := ?_) rfl (by kernel_rfl) (fun _ _ _ h => h) (Or.inl ⟨by rfl, ?_⟩) (by assumption) ?_
      rotate_left
      · intro w hSw; ((try dsimp only at hSw); go_simp; (try with_reducible rfl))
      simp only [Act.put, List.setIfInBounds_toArray, List.set_cons_zero, List.set_cons_succ]
      refine wpAnyN_tk (i := 2) (v := ?_) rfl (by kernel_rfl) (fun _ _ _ h => h) (Or.inl ⟨by rfl, ?_⟩) (by assumption) ?_
      rotate_left
      · intro w hSw; ((try dsimp only at hSw); go_simp; (try with_reducible rfl))
      simp only [Act.put, List.setIfInBounds_toArray, List.set_cons_zero, List.set_cons_succ]
      refine wpAnyN_tk (i := 3) (v := ?_) rfl (by kernel_rfl) (fun _ _ _ h => h) (Or.inl ⟨by rfl, ?_⟩) (by assumption) ?_
      rotate_left
      · intro w hSw; ((try dsimp only at hSw); go_simp; (try with_reducible rfl))
      simp only [Act.put, List.setIfInBounds_toArray, List.set_cons_zero, List.set_cons_succ]
      refine wpAnyN_tk (i := 4) (v := .bool true) rfl (by kernel_rfl) (fun _ _ _ h => h) (Or.inl ⟨by rfl, fun w hSw => by (try dsimp only at hSw); go_simp; all_goals omega⟩) (by assumption) ?_
      simp only [Act.put, List.setIfInBounds_toArray, List.set_cons_zero, List.set_cons_succ]
      refine wpAnyN_tk (i := 5) (v := ?_) rfl (by kernel_rfl) (fun _ _ _ h => h) (Or.inl ⟨by rfl, ?_⟩) (by assumption) ?_
      rotate_left
      · intro w hSw; ((try dsimp only at hSw); go_simp; (try with_reducible rfl))
      simp only [Act.put, List.setIfInBounds_toArray, List.set_cons_zero, List.set_cons_succ]
      refine wpAnyN_tk (i := 6) (v := ?_) rfl (by kernel_rfl) (fun _ _ _ h => h) (Or.inl ⟨by rfl, ?_⟩) (by assumption) ?_
      rotate_left
      · intro w hSw; ((try dsimp only at hSw); go_simp; (try with_reducible rfl))
      simp only [Act.put, List.setIfInBounds_toArray, List.set_cons_zero, List.set_cons_succ]
      refine wpAnyN_tk (i := 7) (v := ?_) rfl (by kernel_rfl) (fun _ _ _ h => h) (Or.inl ⟨by rfl, ?_⟩) (by assumption) ?_
      rotate_left
      · intro w hSw; ((try dsimp only at hSw); go_simp; (try with_reducible rfl))
      simp only [Act.put, List.setIfInBounds_toArray, List.set_cons_zero, List.set_cons_succ]
      refine wpAnyN_tk (i := 8) (v := ?_) rfl (by kernel_rfl) (fun _ _ _ h => h) (Or.inl ⟨by rfl, ?_⟩) (by assumption) ?_
      rotate_left
      · intro w hSw; ((try dsimp only at hSw); go_simp; (try with_reducible rfl))
      simp only [Act.put, List.setIfInBounds_toArray, List.set_cons_zero, List.set_cons_succ]
      refine wpAnyN_tk (i := 9) (v := ?_) rfl (by kernel_rfl) (fun _ _ _ h => h) (Or.inl ⟨by rfl, ?_⟩) (by assumption) ?_
      rotate_left
      · intro w hSw; ((try dsimp only at hSw); go_simp; (try with_reducible rfl))
      simp only [Act.put, List.setIfInBounds_toArray, List.set_cons_zero, List.set_cons_succ]
      refine wpAnyN_tk (i := 10) (v := ?_) rfl (by kernel_rfl) (fun _ _ _ h => h) (Or.inl ⟨by rfl, ?_⟩) (by assumption) ?_
      rotate_left
      · intro w hSw; ((try dsimp only at hSw); go_simp; (try with_reducible rfl))
      simp only [Act.put, List.setIfInBounds_toArray, List.set_cons_zero, List.set_cons_succ]
      refine wpAnyN_tk (i := 11) (v := ?_) rfl (by kernel_rfl) (fun _ _ _ h => h) (Or.inl ⟨by rfl, ?_⟩) (by assumption) ?_
      rotate_left
      · intro w hSw; ((try dsimp only at hSw); go_simp; (try with_reducible rfl))
      simp only [Act.put, List.setIfInBounds_toArray, List.set_cons_zero, List.set_cons_succ]
      refine wpAnyN_tk (i := 12) (v := ?_) rfl (by kernel_rfl) (fun _ _ _ h => h) (Or.inl ⟨by rfl, ?_⟩) (by assumption) ?_
      rotate_left
      · intro w hSw; ((try dsimp only at hSw); go_simp; (try with_reducible rfl))
      simp only [Act.put, List.setIfInBounds_toArray, List.set_cons_zero, List.set_cons_succ]
      refine wpAnyN_tk (i := 13) (v := ?_) rfl (by kernel_rfl) (fun _ _ _ h => h) (Or.inl ⟨by rfl, ?_⟩) (by assumption) ?_
      rotate_left
      · intro w hSw; ((try dsimp only at hSw); go_simp; (try with_reducible rfl))
      simp only [Act.put, List.setIfInBounds_toArray, List.set_cons_zero, List.set_cons_succ]
      refine wpAnyN_tk (i := 14) (v := ?_) rfl (by kernel_rfl) (fun _ _ _ h => h) (Or.inl ⟨by rfl, ?_⟩) (by assumption) ?_
      rotate_left
      · intro w hSw; ((try dsimp only at hSw); go_simp; (try with_reducible rfl))
      simp only [Act.put, List.setIfInBounds_toArray, List.set_cons_zero, List.set_cons_succ]
      refine wpAnyN_tk (i := 15) (v := ?_) rfl (by kernel_rfl) (fun _ _ _ h => h) (Or.inl ⟨by rfl, ?_⟩) (by assumption) ?_
      rotate_left
      · intro w hSw; ((try dsimp only at hSw); go_simp; (try with_reducible rfl))
      simp only [Act.put, List.setIfInBounds_toArray, List.set_cons_zero, List.set_cons_succ]
      refine wpAnyN_tk (i := 16) (v := ?_) rfl (by kernel_rfl) (fun _ _ _ h => h) (Or.inl ⟨by rfl, ?_⟩) (by assumption) ?_
      rotate_left
      · intro w hSw; ((try dsimp only at hSw); go_simp; (try with_reducible rfl))
      simp only [Act.put, List.setIfInBounds_toArray, List.set_cons_zero, List.set_cons_succ]
      refine wpAnyN_one (i := 17) rfl (by kernel_rfl) ?_
      go_wp2_with fail
      have hdr := (Step.refl Nobody W1 o1).drew
      refine (room_is (hlaH.out.step hdr (nn _) (nn _)) RM hRMH.out).mono ?_; rintro e w3 ⟨v3, o3, rfl, hs3, rfl⟩
      have hs3 : Step Nobody W1 o1 w3 o3 := hdr.trans hs3
      have hS3 : w3.cell? ⟨ps, 5, none⟩ = some (.int .u64 (s.age.toNat : Int)) ∧ w3.cell? ⟨ps, 4, none⟩ = some (.int .i64 (k : Int)) ∧ w3.cell? ⟨ps, 1 + k, none⟩ = some (.pointer (some ⟨pa, 0, none⟩)) := by
        obtain ⟨k1, k2, k3⟩ := hS2H.out
        have hb := fun (i : Nat) (v : Value) (hc : (W1).cell? ⟨ps, i, none⟩ = some v) => (World.cell?_of_block (w := W1) (w' := w3) (a := ⟨ps, i, none⟩) (hs3.block ps hpl (nn _))).trans hc
        exact ⟨hb _ _ k1, hb _ _ k2, hb _ _ k3⟩

      clear hHeld hdr
      go_wp2_with fail
      refine ⟨fun _ => hS3, ?_⟩
      refine wpAnyN_tk (i := 18) (v := .bool false) rfl (by kernel_rfl) (fun _ _ _ h => h) (Or.inl ⟨by rfl, fun w hSw => by (try dsimp only at hSw); go_simp; all_goals omega⟩) (by assumption) ?_
      simp only [Act.put, List.setIfInBounds_toArray, List.set_cons_zero, List.set_cons_succ]
      refine wpAnyN_tk (i := 19) (v := .bool false) rfl (by kernel_rfl) (fun _ _ _ h => h) (Or.inl ⟨by rfl, fun w hSw => by (try dsimp only at hSw); go_simp; all_goals omega⟩) (by assumption) ?_
      simp only [Act.put, List.setIfInBounds_toArray, List.set_cons_zero, List.set_cons_succ]
      refine wpAnyN_tk (i := 20) (v := ?_) rfl (by kernel_rfl) (fun _ _ _ h => h) (Or.inl ⟨by rfl, ?_⟩) (by assumption) ?_
      rotate_left
      · intro w hSw; ((try dsimp only at hSw); go_simp; (try with_reducible rfl))
      simp only [Act.put, List.setIfInBounds_toArray, List.set_cons_zero, List.set_cons_succ]
      refine wpAnyN_tk (i := 21) (v := undef) rfl (by kernel_rfl) (fun _ _ _ h => h) (Or.inr ⟨by rfl, rfl⟩) (by assumption) ?_
      simp only [Act.put, List.setIfInBounds_toArray, List.set_cons_zero, List.set_cons_succ]
      refine wpAnyN_tk (i := 22) (v := undef) rfl (by kernel_rfl) (fun _ _ _ h => h) (Or.inr ⟨by rfl, rfl⟩) (by assumption) ?_
      simp only [Act.put, List.setIfInBounds_toArray, List.set_cons_zero, List.set_cons_succ]
      refine wpAnyN_tk (i := 23) (v := undef) rfl (by kernel_rfl) (fun _ _ _ h => h) (Or.inr ⟨by rfl, rfl⟩) (by assumption) ?_
      simp only [Act.put, List.setIfInBounds_toArray, List.set_cons_zero, List.set_cons_succ]
      refine wpAnyN_tk (i := 24) (v := undef) rfl (by kernel_rfl) (fun _ _ _ h => h) (Or.inr ⟨by rfl, rfl⟩) (by assumption) ?_
      simp only [Act.put, List.setIfInBounds_toArray, List.set_cons_zero, List.set_cons_succ]
      refine wpAnyN_tk (i := 25) (v := undef) rfl (by kernel_rfl) (fun _ _ _ h => h) (Or.inr ⟨by rfl, rfl⟩) (by assumption) ?_
      simp only [Act.put, List.setIfInBounds_toArray, List.set_cons_zero, List.set_cons_succ]
      refine wpAnyN_tk (i := 26) (v := undef) rfl (by kernel_rfl) (fun _ _ _ h => h) (Or.inr ⟨by rfl, rfl⟩) (by assumption) ?_
      simp only [Act.put, List.setIfInBounds_toArray, List.set_cons_zero, List.set_cons_succ]
      refine wpAnyN_tk (i := 27) (v := undef) rfl (by kernel_rfl) (fun _ _ _ h => h) (Or.inr ⟨by rfl, rfl⟩) (by assumption) ?_
      simp only [Act.put, List.setIfInBounds_toArray, List.set_cons_zero, List.set_cons_succ]
      refine wpAnyN_tk (i := 28) (v := undef) rfl (by kernel_rfl) (fun _ _ _ h => h) (Or.inr ⟨by rfl, rfl⟩) (by assumption) ?_
      simp only [Act.put, List.setIfInBounds_toArray, List.set_cons_zero, List.set_cons_succ]
      refine wpAnyN_tk (i := 29) (v := undef) rfl (by kernel_rfl) (fun _ _ _ h => h) (Or.inr ⟨by rfl, rfl⟩) (by assumption) ?_
      simp only [Act.put, List.setIfInBounds_toArray, List.set_cons_zero, List.set_cons_succ]
      refine wpAnyN_tk (i := 30) (v := undef) rfl (by kernel_rfl) (fun _ _ _ h => h) (Or.inr ⟨by rfl, rfl⟩) (by assumption) ?_
      simp only [Act.put, List.setIfInBounds_toArray, List.set_cons_zero, List.set_cons_succ]
      refine wpAnyN_tk (i := 31) (v := undef) rfl (by kernel_rfl) (fun _ _ _ h => h) (Or.inr ⟨by rfl, rfl⟩) (by assumption) ?_
      simp only [Act.put, List.setIfInBounds_toArray, List.set_cons_zero, List.set_cons_succ]
      refine wpAnyN_tk (i := 32) (v := .bool false) rfl (by kernel_rfl) (fun _ _ _ h => h) (Or.inl ⟨by rfl, fun w hSw => by (try dsimp only at hSw); go_simp; all_goals omega⟩) (by assumption) ?_
      simp only [Act.put, List.setIfInBounds_toArray, List.set_cons_zero, List.set_cons_succ]
      refine wpAnyN_done (by kernel_rfl) ?_ _
      have hpl3 : ps < w3.heap.size := Nat.lt_of_lt_of_le hpl hs3.size
      have hbx3 := (hs3.block bx (lt_of_block b1) (nn _)).trans b1
      have c43 := hS3.2.1
      have hS5 := hidden (And.intro hbx3 hS3.1)
      clear hS3
      rw [hbxH.out]
      go_wp2_with fail
      refine wp_region_need (fun w' => w'.heap[bx]? = some (.cells [.int .u64 (now.promised.toNat : Int), .int .u64 (now.current.toNat : Int), .slice na now.lines.length nc].toArray 108 (0, 0)) ∧ w'.cell? ⟨ps, 5, none⟩ = some (.int .u64 (s.age.toNat : Int))) (fun _ => true) (by kernel_rfl) hS5.out (fun hHeld => ?_)
      refine wpAnyN_tk (i := 0) (v := .agg #[.int .u64 (now.promised.toNat : Int), .int .u64 (now.current.toNat : Int), .slice na now.lines.length nc]) rfl (by kernel_rfl) (fun _ _ _ h => h) (yieldsIf_load_mid rfl 108 (.tmp 5) rfl bx 0 rfl [.int .u64 (now.promised.toNat : Int), .int .u64 (now.current.toNat : Int), .slice na now.lines.length nc] _ (fun w h => range_whole h.1) Try.underlying108 rfl (by kernel_rfl)) (by assumption) ?_
      simp only [Act.put, List.setIfInBounds_toArray, List.set_cons_zero, List.set_cons_succ]
      refine wpAnyN_tk (i := 1) (v := ?_) rfl (by kernel_rfl) (fun _ _ _ h => h) (Or.inl ⟨by rfl, ?_⟩) (by assumption) ?_
      rotate_left
      · intro w hSw; ((try dsimp only at hSw); go_simp; (try with_reducible rfl))
      simp only [Act.put, List.setIfInBounds_toArray, List.set_cons_zero, List.set_cons_succ]
      refine wpAnyN_tk (i := 2) (v := ?_) rfl (by kernel_rfl) (fun _ _ _ h => h) (Or.inl ⟨by rfl, ?_⟩) (by assumption) ?_
      rotate_left
      · intro w hSw; ((try dsimp only at hSw); go_simp; (try with_reducible rfl))
      simp only [Act.put, List.setIfInBounds_toArray, List.set_cons_zero, List.set_cons_succ]
      refine wpAnyN_tk (i := 3) (v := ?_) rfl (by kernel_rfl) (fun _ _ _ h => h) (Or.inl ⟨by rfl, ?_⟩) (by assumption) ?_
      rotate_left
      · intro w hSw; ((try dsimp only at hSw); go_simp; (try with_reducible rfl))
      simp only [Act.put, List.setIfInBounds_toArray, List.set_cons_zero, List.set_cons_succ]
      refine wpAnyN_tk (i := 4) (v := ?_) rfl (by kernel_rfl) (fun _ _ _ h => h) (Or.inl ⟨by rfl, ?_⟩) (by assumption) ?_
      rotate_left
      · intro w hSw; ((try dsimp only at hSw); go_simp; (try with_reducible rfl))
      simp only [Act.put, List.setIfInBounds_toArray, List.set_cons_zero, List.set_cons_succ]
      refine wpAnyN_tk (i := 5) (v := .int .u64 ((s.age + 1#64).toNat : Int)) rfl (by kernel_rfl) (fun _ _ _ h => h) (Or.inl ⟨by rfl, fun w hSw => by (try dsimp only at hSw); go_simp; first | done | exact hwa | rw [hwa]⟩) (by assumption) ?_
      simp only [Act.put, List.setIfInBounds_toArray, List.set_cons_zero, List.set_cons_succ]
      refine wpAnyN_one (i := 6) rfl (by kernel_rfl) ?_
      go_wp2_with fail
      refine (hall.out _ o3 hs3.drew).mono ?_; rintro e w4 ⟨v4, o4, rfl, hs4, hnb⟩
      have hs4 : Step Nobody w3 o3 w4 o4 := (Step.refl Nobody w3 o3).drew.trans hs4
      have hbx4 := (hs4.block bx (lt_of_block hbx3) (nn _)).trans hbx3
      have hS6 := And.intro hbx4 (show w4.cell? ⟨ps, 5, none⟩ = some (.int .u64 (s.age.toNat : Int)) by rw [World.cell?_of_block (w := w3) (a := ⟨ps, 5, none⟩) (hs4.block ps hpl3 (nn _))]; exact hS5.out.2)
      have hcapA := hnb.cap
      have hby := hnb.bytes
      obtain ⟨aa, ac, rfl⟩ := slc_form hby
      rw [hALH.out] at hby hcapA ⊢
      clear hHeld hnb
      go_wp2_with fail
      refine ⟨fun _ => hS6, ?_⟩
      refine wpAnyN_tk (i := 7) (v := ?_) rfl (by kernel_rfl) (fun _ _ _ h => h) (Or.inl ⟨by rfl, ?_⟩) (by assumption) ?_
      rotate_left
      · intro w hSw; ((try dsimp only at hSw); go_simp; (try with_reducible rfl))
      simp only [Act.put, List.setIfInBounds_toArray, List.set_cons_zero, List.set_cons_succ]
      refine wpAnyN_done (by kernel_rfl) ?_ _
      have hs4 : Step Nobody W1 o1 w4 o4 := hs3.trans hs4
      have hst0 := hidden ((hs1H.out.trans hs4).mono (T' := In4 S X Y D) (fun _ h => h.elim))
      have hb4 := hbH.out.step hs4 (nn _)
      have hkl4 := hklH.out.step hs4 (nn _)
      have hla4 := hlaH.out.step hs4 (nn _) (nn _)
      have hlb4 := hlbH.out.step hs4 (nn _) (nn _)
      have hd4 := hdH.out.step hs4 (nn _)
      have hnow4 := hnowH.out.step hs4 (nn _)
      have htx4 := (hs4.own bx (lt_of_block b1)).trans t1
      obtain ⟨⟨-, d3, d4, d5, -, -, -, -⟩, ⟨-, dB⟩, -⟩ := hb4.cells
      rw [hjH.out] at dB
      clear hS6 hS5 hs3 c43 hall hbx3 hpl3
      by_cases hfull : 480 * (s.pages - 1) < AL
      · have hfI : (480 : Int) * ((s.pages : Int) - 1) < (AL : Int) := by omega
        have hQ2 : Hid (Q = (s, 4)) := hidden (by rw [← hQH.out]; unfold StoreM.write; rw [if_neg hnoH.out, hAEH.out, hALH.out, if_pos hfull])
        have hF := hidden (show StoreAt w4 o4 S X Y D ps pd base Q.1 from by rw [hQ2.out]; exact ⟨X, Y, pa, pb, k, kv, .inl ⟨rfl, rfl⟩, hb4, hkl4, hla4, hlb4, hd4⟩)
        have hQ9 := hidden (show Q.2 = 4 by rw [hQ2.out])
        clear hb4 hkl4 hla4 hlb4 hd4 hnow4
        go_wp2_with fail
        go_ret
        exact ⟨_, o4, rfl, hst0.out, by rw [hQ9.out]; rfl, by rw [if_neg (by rw [hQ9.out]; omega)]; exact hF.out⟩
      · have hfI : ¬ (480 : Int) * ((s.pages : Int) - 1) < (AL : Int) := by omega
        have hld4 : LD w4 o4 Y D pb pd (s.oth, s.d) := ⟨hlb4, hd4⟩
        obtain ⟨⟨⟨l1, d1⟩, e1⟩, hC1⟩ : ∃ q, LogM.reset (s.oth, s.d) = q := ⟨_, rfl⟩
        have hrow5 : d1.row.length ≤ 700000 := by have := hrowH.out; rw [hC1] at this; exact this
        have hrs := hidden (reset_is hT.out.b0 hT.out.d0 hT.out.bd hld4 (by show s.d.row.length ≤ _; omega) hC1)
        have hQ2 : Q = if e1 ≠ 0 then ({ s with oth := l1, d := d1, dead := true }, 9) else if (LogM.commit AE (l1, d1)).2 ≠ 0 then ({ s with oth := (LogM.commit AE (l1, d1)).1.1, d := (LogM.commit AE (l1, d1)).1.2, dead := true }, 9)
            else ({ s with cur := (LogM.commit AE (l1, d1)).1.1, oth := s.cur, d := (LogM.commit AE (l1, d1)).1.2, age := s.age + 1#64, kept := now }, 0) := by
          rw [← hQH.out]; unfold StoreM.write; rw [if_neg hnoH.out, hAEH.out, hALH.out, if_neg hfull, hC1]
        replace hQ2 := hidden hQ2
        clear hlb4 hd4 hld4 hC1
        go_wp2_with fail
        refine hrs.out.mono ?_; rintro e w5 ⟨v5, o5, rfl, hs5, rfl, hld5⟩
        have hpl4 : ps < w4.heap.size := Nat.lt_of_lt_of_le hpl hs4.size
        have hb5 := hb4.step hs5 nYS
        have hkl5 := hkl4.step hs5 nY0
        have hla5 := hla4.step hs5 nYX nY0
        have hnow5 := hnow4.step hs5 nY0
        have hby5 := hby.step hs5 nY0
        have hbx5 := (hs5.block bx (lt_of_block hbx4) (by rw [htx4]; exact nY0)).trans hbx4
        have htx5 := (hs5.own bx (lt_of_block hbx4)).trans htx4
        have hstA := hidden (hst0.out.trans (hs5.mono mY.out))
        obtain ⟨⟨-, -, e4, e5, -, -, -, -⟩, ⟨-, eB⟩, ef, -⟩ := hb5.cells
        rw [hjH.out] at eB
        clear hb4 hkl4 hla4 hnow4 hby hrs hs5 hs4 d3 d4 d5 dB
        by_cases he1 : e1 = 0
        · subst he1
          obtain ⟨⟨⟨l2, d2⟩, e2⟩, hC2⟩ : ∃ q, LogM.commit AE (l1, d1) = q := ⟨_, rfl⟩
          have hcm := hidden (commit_is hT.out.b0 hT.out.d0 hT.out.bd hld5 hrow5 AE _ hby5 hcapA (by rw [hALH.out]; omega) hC2)
          have hQ2 : Q = if e2 ≠ 0 then ({ s with oth := l2, d := d2, dead := true }, 9) else ({ s with cur := l2, oth := s.cur, d := d2, age := s.age + 1#64, kept := now }, 0) := by
            have := hQ2.out; rw [hC2] at this; exact this
          replace hQ2 := hidden hQ2
          clear hld5 hby5 hC2 e4 e5
          go_wp2_with fail
          refine hcm.out.mono ?_; rintro e w6 ⟨v6, o6, rfl, hs6, rfl, hld6⟩
          have hb6 := hb5.step hs6 nYS
          have hkl6 := hkl5.step hs6 nY0
          have hla6 := hla5.step hs6 nYX nY0
          have hnow6 := hnow5.step hs6 nY0
          have hbx6 := (hs6.block bx (lt_of_block hbx5) (by rw [htx5]; exact nY0)).trans hbx5
          have htx6 := (hs6.own bx (lt_of_block hbx5)).trans htx5
          have hstA := hidden (hstA.out.trans (hs6.mono mY.out))
          obtain ⟨⟨-, -, f4, f5, -, -, -, -⟩, -, ff, -⟩ := hb6.cells
          clear hb5 hkl5 hla5 hnow5 hcm hs6 eB ef
          by_cases he2 : e2 = 0
          · subst he2
            have hQ2 : Hid (Q = ({ s with cur := l2, oth := s.cur, d := d2, age := s.age + 1#64, kept := now }, 0)) := hidden (by rw [hQ2.out]; rfl)
            have hsw := hb6.swap (s.age + 1#64)
            have g1 := hb6.setStep 4 (.int .i64 ((1 - k : Nat) : Int))
            have hb61 : Step (Only S) w6 o6 ((w6.setCell ⟨ps, 4, none⟩ (.int .i64 ((1 - k : Nat) : Int))).setCell ⟨ps, 5, none⟩ (.int .u64 ((s.age + 1#64).toNat : Int))) o6 := g1.setCell (a := ⟨ps, 5, none⟩) _ (.inl (by obtain ⟨_, _, _, _, q3⟩ := hb6; show (o6 ps).1 = S; rw [q3]))
            rw [hjH.out] at hsw hb61
            have hbx7 := (hb61.block bx (lt_of_block hbx6) (by rw [htx6]; exact nS0)).trans hbx6
            have hkl7 := hkl6.step hb61 nS0
            have hla7 := hla6.step hb61 nSX nS0
            have hnow7 := hnow6.step hb61 nS0
            have hld7 := hld6.step hb61 nSY nSD nS0
            have hstA := hidden (hstA.out.trans (hb61.mono mS.out))
            have ff4 := ff 4
            have ff5 := ff 5
            obtain ⟨w7, hw7⟩ : ∃ w7, (w6.setCell ⟨ps, 4, none⟩ (.int .i64 (j : Int))).setCell ⟨ps, 5, none⟩ (.int .u64 ((s.age + 1#64).toNat : Int)) = w7 := ⟨_, rfl⟩
            rw [hw7] at hsw hbx7 hkl7 hla7 hnow7 hld7 hstA
            clear hb6 hkl6 hla6 hnow6 hld6 g1 hb61 ff hbx6
            have hlo := hidden (show (Instr.loadAt 108 (.pointer (some ⟨bx, 0, none⟩))).run Try.prog w7 = .ok (.agg #[.int .u64 (now.promised.toNat : Int), .int .u64 (now.current.toNat : Int), .slice na now.lines.length nc]) w7 from load108at (range_whole (by exact hbx7)))
            obtain ⟨hbN, hso, hstS⟩ := hsw.setKept now (.slice na now.lines.length nc) ⟨_, _, _, rfl⟩
            have hsoH := hidden (show (Instr.storeAt 108 (.pointer (some ⟨ps, 6, none⟩)) (.agg #[.int .u64 (now.promised.toNat : Int), .int .u64 (now.current.toNat : Int), .slice na now.lines.length nc])).run Try.prog w7 = .ok () _ from hso)
            have hF := hidden (show StoreAt (w7.setCells ps 6 [.int .u64 (now.promised.toNat : Int), .int .u64 (now.current.toNat : Int), .slice na now.lines.length nc]) o6 S X Y D ps pd nb Q.1 from by rw [hQ2.out]; exact ⟨Y, X, pb, pa, j, _, .inr ⟨rfl, rfl⟩, hbN, hnow7.step hstS nS0, hld7.1.step hstS nSY nS0, hla7.step hstS nSX nS0, hld7.2.step hstS nSD⟩)
            have hstF := hidden (hstA.out.trans (hstS.mono mS.out))
            have hQ9 := hidden (show Q.2 = 0 by rw [hQ2.out])
            clear hbN hso hstS hkl7 hla7 hnow7 hld7 hsw
            have hw7H := hidden (show (w6.setCell ⟨ps, 4, none⟩ (.int .i64 (j : Int))).setCell ⟨ps, 5, none⟩ (.int .u64 (((s.age.toNat : Int) + 1) % 18446744073709551616)) = w7 by rw [wrapMod64]; exact hw7)
            clear hw7
            rw [← hw7H.out] at hlo hsoH hF hstF
            go_wp2_with (first
              | ((with_reducible apply lit_load); exact hlo.out; simp only [Act.put, List.setIfInBounds_toArray, List.set_cons_zero, List.set_cons_succ])
              | ((with_reducible apply lit_store); exact hsoH.out; simp only [Act.put]))
            go_ret
            exact ⟨_, o6, rfl, hstF.out, by rw [hQ9.out]; rfl, by (rw [if_pos hQ9.out]; exact hF.out)⟩
          · have hQ2 : Hid (Q = ({ s with oth := l2, d := d2, dead := true }, 9)) := hidden (by rw [hQ2.out, if_pos he2])
            have heI : (e2 == 0) = false := by simpa using he2
            obtain ⟨⟨-, -, -, -, -, -, -, c9⟩, -, hfz9, -⟩ := hb6.cells
            have hfz9 := hfz9 9
            have hbD := hb6.setDead true
            have hstS := hb6.setStep 9 (.bool true)
            have hF := hidden (show StoreAt (w6.setCell ⟨ps, 9, none⟩ (.bool true)) o6 S X Y D ps pd base Q.1 from by rw [hQ2.out]; exact ⟨X, Y, pa, pb, k, kv, .inl ⟨rfl, rfl⟩, hbD, hkl6.step hstS nS0, hla6.step hstS nSX nS0, hld6.1.step hstS nSY nS0, hld6.2.step hstS nSD⟩)
            have hstF := hidden (hstA.out.trans (hstS.mono mS.out))
            have hQ9 := hidden (show Q.2 = 9 by rw [hQ2.out])
            clear hbD hstS
            go_wp2_with fail
            go_ret
            exact ⟨_, o6, rfl, hstF.out, by rw [hQ9.out]; rfl, by (rw [if_neg (by rw [hQ9.out]; omega)]; exact hF.out)⟩
        · have hQ2 : Hid (Q = ({ s with oth := l1, d := d1, dead := true }, 9)) := hidden (by rw [hQ2.out, if_pos he1])
          have heI : (e1 == 0) = false := by simpa using he1
          obtain ⟨⟨-, -, -, -, -, -, -, c9⟩, -, hfz9, -⟩ := hb5.cells
          have hfz9 := hfz9 9
          have hbD := hb5.setDead true
          have hstS := hb5.setStep 9 (.bool true)
          have hF := hidden (show StoreAt (w5.setCell ⟨ps, 9, none⟩ (.bool true)) o5 S X Y D ps pd base Q.1 from by rw [hQ2.out]; exact ⟨X, Y, pa, pb, k, kv, .inl ⟨rfl, rfl⟩, hbD, hkl5.step hstS nS0, hla5.step hstS nSX nS0, hld5.1.step hstS nSY nS0, hld5.2.step hstS nSD⟩)
          have hstF := hidden (hstA.out.trans (hstS.mono mS.out))
          have hQ9 := hidden (show Q.2 = 9 by rw [hQ2.out])
          clear hbD hstS
          go_wp2_with fail
          go_ret
          exact ⟨_, o5, rfl, hstF.out, by rw [hQ9.out]; rfl, by (rw [if_neg (by rw [hQ9.out]; omega)]; exact hF.out)⟩
  · have hageI : ¬ (0 : Int) < (s.age.toNat : Int) := by omega
    have hno : ¬ (0 < s.age.toNat ∧ rec.length ≤ s.cur.room) := by rw [hRH.out, hRMH.out]; omega
    obtain ⟨j, hj⟩ : ∃ j, 1 - k = j := ⟨_, rfl⟩
    have hjI : (1 : Int) - (k : Int) = (j : Int) := by omega
    have hj2 : (j : Int) < 2 := by omega
    obtain ⟨AE, hAE⟩ : ∃ AE, allE (s.age + 1#64) now.promised now.current now.lines = AE := ⟨_, rfl⟩
    have hall := hidden (fun (W : World) (O : Own) (st : Step Nobody W1 o1 W O) => all_any (hnowH.out.step st (nn _)) (by have := hsmH.out.1; omega) (by have := hsmH.out.2; omega) (p := now.promised) (c := now.current) (s.age + 1#64))
    rw [hAE] at hall
    have hAEl : AE.length ≤ 1400000 := by
      rw [← hAE]
      have := hsmH.out.2
      simp [allE, encL, length_be]; omega
    have hwa := wrapInc64 s.age
    obtain ⟨AL, hAL⟩ : ∃ AL, AE.length = AL := ⟨_, rfl⟩
    rw [hAL] at hAEl
    have hALI : (0 : Int) ≤ (AL : Int) ∧ (AL : Int) ≤ 1400000 := by omega
    have hpgI : (1 : Int) ≤ (s.pages : Int) ∧ (s.pages : Int) ≤ 4096 := by omega
    have hAEH := hidden hAE
    have hALH := hidden hAL
    have hnoH := hidden hno
    have hjH := hidden hj
    clear hr1 hr2 hroomA hAE hAL hno hAEl hj
    go_enter Try.func103, Try.ntmps103
    go_wp2_with fail
    rw [hW1H.out]
    refine wp_region_need (fun w' => w'.cell? ⟨ps, 5, none⟩ = some (.int .u64 (s.age.toNat : Int)) ∧ w'.cell? ⟨ps, 4, none⟩ = some (.int .i64 (k : Int)) ∧ w'.cell? ⟨ps, 1 + k, none⟩ = some (.pointer (some ⟨pa, 0, none⟩))) (fun _ => true) (by kernel_rfl) hS2H.out (fun hHeld => ?_)
    refine wpAnyN_tk (i := 0) (v := ?_) rfl (by kernel_rfl) (fun _ _ _ h => h) (Or.inl ⟨by rfl, ?_⟩) (by assumption) ?_
    rotate_left
    · intro w hSw; ((try dsimp only at hSw); go_simp; (try with_reducible rfl))
    simp only [Act.put, List.setIfInBounds_toArray, List.set_cons_zero, List.set_cons_succ]
    refine wpAnyN_tk (i := 1) (v := ?_) rfl (by kernel_rfl) (fun _ _ _ h => h) (Or.inl ⟨by rfl, ?_⟩) (by assumption) ?_
    rotate_left
    · intro w hSw; ((try dsimp only at hSw); go_simp; (try with_reducible rfl))
    simp only [Act.put, List.setIfInBounds_toArray, List.set_cons_zero, List.set_cons_succ]
    refine wpAnyN_tk (i := 2) (v := ?_) rfl (by kernel_rfl) (fun _ _ _ h => h) (Or.inl ⟨by rfl, ?_⟩) (by assumption) ?_
    rotate_left
    · intro w hSw; ((try dsimp only at hSw); go_simp; (try with_reducible rfl))
    simp only [Act.put, List.setIfInBounds_toArray, List.set_cons_zero, List.set_cons_succ]
    refine wpAnyN_tk (i := 3) (v := ?_) rfl (by kernel_rfl) (fun _ _ _ h => h) (Or.inl ⟨by rfl, ?_⟩) (by assumption) ?_
    rotate_left
    · intro w hSw; ((try dsimp only at hSw); go_simp; (try with_reducible rfl))
    simp only [Act.put, List.setIfInBounds_toArray, List.set_cons_zero, List.set_cons_succ]
    refine wpAnyN_tk (i := 4) (v := .bool false) rfl (by kernel_rfl) (fun _ _ _ h => h) (Or.inl ⟨by rfl, fun w hSw => by (try dsimp only at hSw); go_simp; all_goals omega⟩) (by assumption) ?_
    simp only [Act.put, List.setIfInBounds_toArray, List.set_cons_zero, List.set_cons_succ]
    refine wpAnyN_tk (i := 5) (v := ?_) rfl (by kernel_rfl) (fun _ _ _ h => h) (Or.inl ⟨by rfl, ?_⟩) (by assumption) ?_
    rotate_left
    · intro w hSw; ((try dsimp only at hSw); go_simp; (try with_reducible rfl))
    simp only [Act.put, List.setIfInBounds_toArray, List.set_cons_zero, List.set_cons_succ]
    refine wpAnyN_tk (i := 6) (v := undef) rfl (by kernel_rfl) (fun _ _ _ h => h) (Or.inr ⟨by rfl, rfl⟩) (by assumption) ?_
    simp only [Act.put, List.setIfInBounds_toArray, List.set_cons_zero, List.set_cons_succ]
    refine wpAnyN_tk (i := 7) (v := undef) rfl (by kernel_rfl) (fun _ _ _ h => h) (Or.inr ⟨by rfl, rfl⟩) (by assumption) ?_
    simp only [Act.put, List.setIfInBounds_toArray, List.set_cons_zero, List.set_cons_succ]
    refine wpAnyN_tk (i := 8) (v := undef) rfl (by kernel_rfl) (fun _ _ _ h => h) (Or.inr ⟨by rfl, rfl⟩) (by assumption) ?_
    simp only [Act.put, List.setIfInBounds_toArray, List.set_cons_zero, List.set_cons_succ]
    refine wpAnyN_tk (i := 9) (v := undef) rfl (by kernel_rfl) (fun _ _ _ h => h) (Or.inr ⟨by rfl, rfl⟩) (by assumption) ?_
    simp only [Act.put, List.setIfInBounds_toArray, List.set_cons_zero, List.set_cons_succ]
    refine wpAnyN_tk (i := 10) (v := undef) rfl (by kernel_rfl) (fun _ _ _ h => h) (Or.inr ⟨by rfl, rfl⟩) (by assumption) ?_
    simp only [Act.put, List.setIfInBounds_toArray, List.set_cons_zero, List.set_cons_succ]
    refine wpAnyN_tk (i := 11) (v := undef) rfl (by kernel_rfl) (fun _ _ _ h => h) (Or.inr ⟨by rfl, rfl⟩) (by assumption) ?_
    simp only [Act.put, List.setIfInBounds_toArray, List.set_cons_zero, List.set_cons_succ]
    refine wpAnyN_tk (i := 12) (v := undef) rfl (by kernel_rfl) (fun _ _ _ h => h) (Or.inr ⟨by rfl, rfl⟩) (by assumption) ?_
    simp only [Act.put, List.setIfInBounds_toArray, List.set_cons_zero, List.set_cons_succ]
    refine wpAnyN_tk (i := 13) (v := undef) rfl (by kernel_rfl) (fun _ _ _ h => h) (Or.inr ⟨by rfl, rfl⟩) (by assumption) ?_
    simp only [Act.put, List.setIfInBounds_toArray, List.set_cons_zero, List.set_cons_succ]
    refine wpAnyN_tk (i := 14) (v := undef) rfl (by kernel_rfl) (fun _ _ _ h => h) (Or.inr ⟨by rfl, rfl⟩) (by assumption) ?_
    simp only [Act.put, List.setIfInBounds_toArray, List.set_cons_zero, List.set_cons_succ]
    refine wpAnyN_tk (i := 15) (v := undef) rfl (by kernel_rfl) (fun _ _ _ h => h) (Or.inr ⟨by rfl, rfl⟩) (by assumption) ?_
    simp only [Act.put, List.setIfInBounds_toArray, List.set_cons_zero, List.set_cons_succ]
    refine wpAnyN_tk (i := 16) (v := undef) rfl (by kernel_rfl) (fun _ _ _ h => h) (Or.inr ⟨by rfl, rfl⟩) (by assumption) ?_
    simp only [Act.put, List.setIfInBounds_toArray, List.set_cons_zero, List.set_cons_succ]
    refine wpAnyN_tk (i := 17) (v := undef) rfl (by kernel_rfl) (fun _ _ _ h => h) (Or.inr ⟨by rfl, rfl⟩) (by assumption) ?_
    simp only [Act.put, List.setIfInBounds_toArray, List.set_cons_zero, List.set_cons_succ]
    refine wpAnyN_tk (i := 18) (v := undef) rfl (by kernel_rfl) (fun _ _ _ h => h) (Or.inr ⟨by rfl, rfl⟩) (by assumption) ?_
    simp only [Act.put, List.setIfInBounds_toArray, List.set_cons_zero, List.set_cons_succ]
    refine wpAnyN_tk (i := 19) (v := .bool false) rfl (by kernel_rfl) (fun _ _ _ h => h) (Or.inl ⟨by rfl, fun w hSw => by (try dsimp only at hSw); go_simp; all_goals omega⟩) (by assumption) ?_
    simp only [Act.put, List.setIfInBounds_toArray, List.set_cons_zero, List.set_cons_succ]
    refine wpAnyN_tk (i := 20) (v := ?_) rfl (by kernel_rfl) (fun _ _ _ h => h) (Or.inl ⟨by rfl, ?_⟩) (by assumption) ?_
    rotate_left
    · intro w hSw; ((try dsimp only at hSw); go_simp; (try with_reducible rfl))
    simp only [Act.put, List.setIfInBounds_toArray, List.set_cons_zero, List.set_cons_succ]
    refine wpAnyN_tk (i := 21) (v := undef) rfl (by kernel_rfl) (fun _ _ _ h => h) (Or.inr ⟨by rfl, rfl⟩) (by assumption) ?_
    simp only [Act.put, List.setIfInBounds_toArray, List.set_cons_zero, List.set_cons_succ]
    refine wpAnyN_tk (i := 22) (v := undef) rfl (by kernel_rfl) (fun _ _ _ h => h) (Or.inr ⟨by rfl, rfl⟩) (by assumption) ?_
    simp only [Act.put, List.setIfInBounds_toArray, List.set_cons_zero, List.set_cons_succ]
    refine wpAnyN_tk (i := 23) (v := undef) rfl (by kernel_rfl) (fun _ _ _ h => h) (Or.inr ⟨by rfl, rfl⟩) (by assumption) ?_
    simp only [Act.put, List.setIfInBounds_toArray, List.set_cons_zero, List.set_cons_succ]
    refine wpAnyN_tk (i := 24) (v := undef) rfl (by kernel_rfl) (fun _ _ _ h => h) (Or.inr ⟨by rfl, rfl⟩) (by assumption) ?_
    simp only [Act.put, List.setIfInBounds_toArray, List.set_cons_zero, List.set_cons_succ]
    refine wpAnyN_tk (i := 25) (v := undef) rfl (by kernel_rfl) (fun _ _ _ h => h) (Or.inr ⟨by rfl, rfl⟩) (by assumption) ?_
    simp only [Act.put, List.setIfInBounds_toArray, List.set_cons_zero, List.set_cons_succ]
    refine wpAnyN_tk (i := 26) (v := undef) rfl (by kernel_rfl) (fun _ _ _ h => h) (Or.inr ⟨by rfl, rfl⟩) (by assumption) ?_
    simp only [Act.put, List.setIfInBounds_toArray, List.set_cons_zero, List.set_cons_succ]
    refine wpAnyN_tk (i := 27) (v := undef) rfl (by kernel_rfl) (fun _ _ _ h => h) (Or.inr ⟨by rfl, rfl⟩) (by assumption) ?_
    simp only [Act.put, List.setIfInBounds_toArray, List.set_cons_zero, List.set_cons_succ]
    refine wpAnyN_tk (i := 28) (v := undef) rfl (by kernel_rfl) (fun _ _ _ h => h) (Or.inr ⟨by rfl, rfl⟩) (by assumption) ?_
    simp only [Act.put, List.setIfInBounds_toArray, List.set_cons_zero, List.set_cons_succ]
    refine wpAnyN_tk (i := 29) (v := undef) rfl (by kernel_rfl) (fun _ _ _ h => h) (Or.inr ⟨by rfl, rfl⟩) (by assumption) ?_
    simp only [Act.put, List.setIfInBounds_toArray, List.set_cons_zero, List.set_cons_succ]
    refine wpAnyN_tk (i := 30) (v := undef) rfl (by kernel_rfl) (fun _ _ _ h => h) (Or.inr ⟨by rfl, rfl⟩) (by assumption) ?_
    simp only [Act.put, List.setIfInBounds_toArray, List.set_cons_zero, List.set_cons_succ]
    refine wpAnyN_tk (i := 31) (v := undef) rfl (by kernel_rfl) (fun _ _ _ h => h) (Or.inr ⟨by rfl, rfl⟩) (by assumption) ?_
    simp only [Act.put, List.setIfInBounds_toArray, List.set_cons_zero, List.set_cons_succ]
    refine wpAnyN_tk (i := 32) (v := .bool false) rfl (by kernel_rfl) (fun _ _ _ h => h) (Or.inl ⟨by rfl, fun w hSw => by (try dsimp only at hSw); go_simp; all_goals omega⟩) (by assumption) ?_
    simp only [Act.put, List.setIfInBounds_toArray, List.set_cons_zero, List.set_cons_succ]
    refine wpAnyN_done (by kernel_rfl) ?_ _
    obtain ⟨w3, hw3⟩ : ∃ w3, W1.drew = w3 := ⟨_, rfl⟩
    obtain ⟨o3, ho3⟩ : ∃ o3, o1 = o3 := ⟨_, rfl⟩
    have hs3 : Step Nobody W1 o1 w3 o3 := by rw [← hw3, ← ho3]; exact (Step.refl Nobody W1 o1).drew
    have hS3 := hHeld
    rw [hw3] at hS3 ⊢
    clear hw3 ho3 hHeld
    have hpl3 : ps < w3.heap.size := Nat.lt_of_lt_of_le hpl hs3.size
    have hbx3 := (hs3.block bx (lt_of_block b1) (nn _)).trans b1
    have c43 := hS3.2.1
    have hS5 := hidden (And.intro hbx3 hS3.1)
    clear hS3
    rw [hbxH.out]
    go_wp2_with fail
    refine wp_region_need (fun w' => w'.heap[bx]? = some (.cells [.int .u64 (now.promised.toNat : Int), .int .u64 (now.current.toNat : Int), .slice na now.lines.length nc].toArray 108 (0, 0)) ∧ w'.cell? ⟨ps, 5, none⟩ = some (.int .u64 (s.age.toNat : Int))) (fun _ => true) (by kernel_rfl) hS5.out (fun hHeld => ?_)
    refine wpAnyN_tk (i := 0) (v := .agg #[.int .u64 (now.promised.toNat : Int), .int .u64 (now.current.toNat : Int), .slice na now.lines.length nc]) rfl (by kernel_rfl) (fun _ _ _ h => h) (yieldsIf_load_mid rfl 108 (.tmp 5) rfl bx 0 rfl [.int .u64 (now.promised.toNat : Int), .int .u64 (now.current.toNat : Int), .slice na now.lines.length nc] _ (fun w h => range_whole h.1) Try.underlying108 rfl (by kernel_rfl)) (by assumption) ?_
    simp only [Act.put, List.setIfInBounds_toArray, List.set_cons_zero, List.set_cons_succ]
    refine wpAnyN_tk (i := 1) (v := ?_) rfl (by kernel_rfl) (fun _ _ _ h => h) (Or.inl ⟨by rfl, ?_⟩) (by assumption) ?_
    rotate_left
    · intro w hSw; ((try dsimp only at hSw); go_simp; (try with_reducible rfl))
    simp only [Act.put, List.setIfInBounds_toArray, List.set_cons_zero, List.set_cons_succ]
    refine wpAnyN_tk (i := 2) (v := ?_) rfl (by kernel_rfl) (fun _ _ _ h => h) (Or.inl ⟨by rfl, ?_⟩) (by assumption) ?_
    rotate_left
    · intro w hSw; ((try dsimp only at hSw); go_simp; (try with_reducible rfl))
    simp only [Act.put, List.setIfInBounds_toArray, List.set_cons_zero, List.set_cons_succ]
    refine wpAnyN_tk (i := 3) (v := ?_) rfl (by kernel_rfl) (fun _ _ _ h => h) (Or.inl ⟨by rfl, ?_⟩) (by assumption) ?_
    rotate_left
    · intro w hSw; ((try dsimp only at hSw); go_simp; (try with_reducible rfl))
    simp only [Act.put, List.setIfInBounds_toArray, List.set_cons_zero, List.set_cons_succ]
    refine wpAnyN_tk (i := 4) (v := ?_) rfl (by kernel_rfl) (fun _ _ _ h => h) (Or.inl ⟨by rfl, ?_⟩) (by assumption) ?_
    rotate_left
    · intro w hSw; ((try dsimp only at hSw); go_simp; (try with_reducible rfl))
    simp only [Act.put, List.setIfInBounds_toArray, List.set_cons_zero, List.set_cons_succ]
    refine wpAnyN_tk (i := 5) (v := .int .u64 ((s.age + 1#64).toNat : Int)) rfl (by kernel_rfl) (fun _ _ _ h => h) (Or.inl ⟨by rfl, fun w hSw => by (try dsimp only at hSw); go_simp; first | done | exact hwa | rw [hwa]⟩) (by assumption) ?_
    simp only [Act.put, List.setIfInBounds_toArray, List.set_cons_zero, List.set_cons_succ]
    refine wpAnyN_one (i := 6) rfl (by kernel_rfl) ?_
    go_wp2_with fail
    refine (hall.out _ o3 hs3.drew).mono ?_; rintro e w4 ⟨v4, o4, rfl, hs4, hnb⟩
    have hs4 : Step Nobody w3 o3 w4 o4 := (Step.refl Nobody w3 o3).drew.trans hs4
    have hbx4 := (hs4.block bx (lt_of_block hbx3) (nn _)).trans hbx3
    have hS6 := And.intro hbx4 (show w4.cell? ⟨ps, 5, none⟩ = some (.int .u64 (s.age.toNat : Int)) by rw [World.cell?_of_block (w := w3) (a := ⟨ps, 5, none⟩) (hs4.block ps hpl3 (nn _))]; exact hS5.out.2)
    have hcapA := hnb.cap
    have hby := hnb.bytes
    obtain ⟨aa, ac, rfl⟩ := slc_form hby
    rw [hALH.out] at hby hcapA ⊢
    clear hHeld hnb
    go_wp2_with fail
    refine ⟨fun _ => hS6, ?_⟩
    refine wpAnyN_tk (i := 7) (v := ?_) rfl (by kernel_rfl) (fun _ _ _ h => h) (Or.inl ⟨by rfl, ?_⟩) (by assumption) ?_
    rotate_left
    · intro w hSw; ((try dsimp only at hSw); go_simp; (try with_reducible rfl))
    simp only [Act.put, List.setIfInBounds_toArray, List.set_cons_zero, List.set_cons_succ]
    refine wpAnyN_done (by kernel_rfl) ?_ _
    have hs4 : Step Nobody W1 o1 w4 o4 := hs3.trans hs4
    have hst0 := hidden ((hs1H.out.trans hs4).mono (T' := In4 S X Y D) (fun _ h => h.elim))
    have hb4 := hbH.out.step hs4 (nn _)
    have hkl4 := hklH.out.step hs4 (nn _)
    have hla4 := hlaH.out.step hs4 (nn _) (nn _)
    have hlb4 := hlbH.out.step hs4 (nn _) (nn _)
    have hd4 := hdH.out.step hs4 (nn _)
    have hnow4 := hnowH.out.step hs4 (nn _)
    have htx4 := (hs4.own bx (lt_of_block b1)).trans t1
    obtain ⟨⟨-, d3, d4, d5, -, -, -, -⟩, ⟨-, dB⟩, -⟩ := hb4.cells
    rw [hjH.out] at dB
    clear hS6 hS5 hs3 c43 hall hbx3 hpl3
    by_cases hfull : 480 * (s.pages - 1) < AL
    · have hfI : (480 : Int) * ((s.pages : Int) - 1) < (AL : Int) := by omega
      have hQ2 : Hid (Q = (s, 4)) := hidden (by rw [← hQH.out]; unfold StoreM.write; rw [if_neg hnoH.out, hAEH.out, hALH.out, if_pos hfull])
      have hF := hidden (show StoreAt w4 o4 S X Y D ps pd base Q.1 from by rw [hQ2.out]; exact ⟨X, Y, pa, pb, k, kv, .inl ⟨rfl, rfl⟩, hb4, hkl4, hla4, hlb4, hd4⟩)
      have hQ9 := hidden (show Q.2 = 4 by rw [hQ2.out])
      clear hb4 hkl4 hla4 hlb4 hd4 hnow4
      go_wp2_with fail
      go_ret
      exact ⟨_, o4, rfl, hst0.out, by rw [hQ9.out]; rfl, by rw [if_neg (by rw [hQ9.out]; omega)]; exact hF.out⟩
    · have hfI : ¬ (480 : Int) * ((s.pages : Int) - 1) < (AL : Int) := by omega
      have hld4 : LD w4 o4 Y D pb pd (s.oth, s.d) := ⟨hlb4, hd4⟩
      obtain ⟨⟨⟨l1, d1⟩, e1⟩, hC1⟩ : ∃ q, LogM.reset (s.oth, s.d) = q := ⟨_, rfl⟩
      have hrow5 : d1.row.length ≤ 700000 := by have := hrowH.out; rw [hC1] at this; exact this
      have hrs := hidden (reset_is hT.out.b0 hT.out.d0 hT.out.bd hld4 (by show s.d.row.length ≤ _; omega) hC1)
      have hQ2 : Q = if e1 ≠ 0 then ({ s with oth := l1, d := d1, dead := true }, 9) else if (LogM.commit AE (l1, d1)).2 ≠ 0 then ({ s with oth := (LogM.commit AE (l1, d1)).1.1, d := (LogM.commit AE (l1, d1)).1.2, dead := true }, 9)
          else ({ s with cur := (LogM.commit AE (l1, d1)).1.1, oth := s.cur, d := (LogM.commit AE (l1, d1)).1.2, age := s.age + 1#64, kept := now }, 0) := by
        rw [← hQH.out]; unfold StoreM.write; rw [if_neg hnoH.out, hAEH.out, hALH.out, if_neg hfull, hC1]
      replace hQ2 := hidden hQ2
      clear hlb4 hd4 hld4 hC1
      go_wp2_with fail
      refine hrs.out.mono ?_; rintro e w5 ⟨v5, o5, rfl, hs5, rfl, hld5⟩
      have hpl4 : ps < w4.heap.size := Nat.lt_of_lt_of_le hpl hs4.size
      have hb5 := hb4.step hs5 nYS
      have hkl5 := hkl4.step hs5 nY0
      have hla5 := hla4.step hs5 nYX nY0
      have hnow5 := hnow4.step hs5 nY0
      have hby5 := hby.step hs5 nY0
      have hbx5 := (hs5.block bx (lt_of_block hbx4) (by rw [htx4]; exact nY0)).trans hbx4
      have htx5 := (hs5.own bx (lt_of_block hbx4)).trans htx4
      have hstA := hidden (hst0.out.trans (hs5.mono mY.out))
      obtain ⟨⟨-, -, e4, e5, -, -, -, -⟩, ⟨-, eB⟩, ef, -⟩ := hb5.cells
      rw [hjH.out] at eB
      clear hb4 hkl4 hla4 hnow4 hby hrs hs5 hs4 d3 d4 d5 dB
      by_cases he1 : e1 = 0
      · subst he1
        obtain ⟨⟨⟨l2, d2⟩, e2⟩, hC2⟩ : ∃ q, LogM.commit AE (l1, d1) = q := ⟨_, rfl⟩
        have hcm := hidden (commit_is hT.out.b0 hT.out.d0 hT.out.bd hld5 hrow5 AE _ hby5 hcapA (by rw [hALH.out]; omega) hC2)
        have hQ2 : Q = if e2 ≠ 0 then ({ s with oth := l2, d := d2, dead := true }, 9) else ({ s with cur := l2, oth := s.cur, d := d2, age := s.age + 1#64, kept := now }, 0) := by
          have := hQ2.out; rw [hC2] at this; exact this
        replace hQ2 := hidden hQ2
        clear hld5 hby5 hC2 e4 e5
        go_wp2_with fail
        refine hcm.out.mono ?_; rintro e w6 ⟨v6, o6, rfl, hs6, rfl, hld6⟩
        have hb6 := hb5.step hs6 nYS
        have hkl6 := hkl5.step hs6 nY0
        have hla6 := hla5.step hs6 nYX nY0
        have hnow6 := hnow5.step hs6 nY0
        have hbx6 := (hs6.block bx (lt_of_block hbx5) (by rw [htx5]; exact nY0)).trans hbx5
        have htx6 := (hs6.own bx (lt_of_block hbx5)).trans htx5
        have hstA := hidden (hstA.out.trans (hs6.mono mY.out))
        obtain ⟨⟨-, -, f4, f5, -, -, -, -⟩, -, ff, -⟩ := hb6.cells
        clear hb5 hkl5 hla5 hnow5 hcm hs6 eB ef
        by_cases he2 : e2 = 0
        · subst he2
          have hQ2 : Hid (Q = ({ s with cur := l2, oth := s.cur, d := d2, age := s.age + 1#64, kept := now }, 0)) := hidden (by rw [hQ2.out]; rfl)
          have hsw := hb6.swap (s.age + 1#64)
          have g1 := hb6.setStep 4 (.int .i64 ((1 - k : Nat) : Int))
          have hb61 : Step (Only S) w6 o6 ((w6.setCell ⟨ps, 4, none⟩ (.int .i64 ((1 - k : Nat) : Int))).setCell ⟨ps, 5, none⟩ (.int .u64 ((s.age + 1#64).toNat : Int))) o6 := g1.setCell (a := ⟨ps, 5, none⟩) _ (.inl (by obtain ⟨_, _, _, _, q3⟩ := hb6; show (o6 ps).1 = S; rw [q3]))
          rw [hjH.out] at hsw hb61
          have hbx7 := (hb61.block bx (lt_of_block hbx6) (by rw [htx6]; exact nS0)).trans hbx6
          have hkl7 := hkl6.step hb61 nS0
          have hla7 := hla6.step hb61 nSX nS0
          have hnow7 := hnow6.step hb61 nS0
          have hld7 := hld6.step hb61 nSY nSD nS0
          have hstA := hidden (hstA.out.trans (hb61.mono mS.out))
          have ff4 := ff 4
          have ff5 := ff 5
          obtain ⟨w7, hw7⟩ : ∃ w7, (w6.setCell ⟨ps, 4, none⟩ (.int .i64 (j : Int))).setCell ⟨ps, 5, none⟩ (.int .u64 ((s.age + 1#64).toNat : Int)) = w7 := ⟨_, rfl⟩
          rw [hw7] at hsw hbx7 hkl7 hla7 hnow7 hld7 hstA
          clear hb6 hkl6 hla6 hnow6 hld6 g1 hb61 ff hbx6
          have hlo := hidden (show (Instr.loadAt 108 (.pointer (some ⟨bx, 0, none⟩))).run Try.prog w7 = .ok (.agg #[.int .u64 (now.promised.toNat : Int), .int .u64 (now.current.toNat : Int), .slice na now.lines.length nc]) w7 from load108at (range_whole (by exact hbx7)))
          obtain ⟨hbN, hso, hstS⟩ := hsw.setKept now (.slice na now.lines.length nc) ⟨_, _, _, rfl⟩
          have hsoH := hidden (show (Instr.storeAt 108 (.pointer (some ⟨ps, 6, none⟩)) (.agg #[.int .u64 (now.promised.toNat : Int), .int .u64 (now.current.toNat : Int), .slice na now.lines.length nc])).run Try.prog w7 = .ok () _ from hso)
          have hF := hidden (show StoreAt (w7.setCells ps 6 [.int .u64 (now.promised.toNat : Int), .int .u64 (now.current.toNat : Int), .slice na now.lines.length nc]) o6 S X Y D ps pd nb Q.1 from by rw [hQ2.out]; exact ⟨Y, X, pb, pa, j, _, .inr ⟨rfl, rfl⟩, hbN, hnow7.step hstS nS0, hld7.1.step hstS nSY nS0, hla7.step hstS nSX nS0, hld7.2.step hstS nSD⟩)
          have hstF := hidden (hstA.out.trans (hstS.mono mS.out))
          have hQ9 := hidden (show Q.2 = 0 by rw [hQ2.out])
          clear hbN hso hstS hkl7 hla7 hnow7 hld7 hsw
          have hw7H := hidden (show (w6.setCell ⟨ps, 4, none⟩ (.int .i64 (j : Int))).setCell ⟨ps, 5, none⟩ (.int .u64 (((s.age.toNat : Int) + 1) % 18446744073709551616)) = w7 by rw [wrapMod64]; exact hw7)
          clear hw7
          rw [← hw7H.out] at hlo hsoH hF hstF
          go_wp2_with (first
            | ((with_reducible apply lit_load); exact hlo.out; simp only [Act.put, List.setIfInBounds_toArray, List.set_cons_zero, List.set_cons_succ])
            | ((with_reducible apply lit_store); exact hsoH.out; simp only [Act.put]))
          go_ret
          exact ⟨_, o6, rfl, hstF.out, by rw [hQ9.out]; rfl, by (rw [if_pos hQ9.out]; exact hF.out)⟩
        · have hQ2 : Hid (Q = ({ s with oth := l2, d := d2, dead := true }, 9)) := hidden (by rw [hQ2.out, if_pos he2])
          have heI : (e2 == 0) = false := by simpa using he2
          obtain ⟨⟨-, -, -, -, -, -, -, c9⟩, -, hfz9, -⟩ := hb6.cells
          have hfz9 := hfz9 9
          have hbD := hb6.setDead true
          have hstS := hb6.setStep 9 (.bool true)
          have hF := hidden (show StoreAt (w6.setCell ⟨ps, 9, none⟩ (.bool true)) o6 S X Y D ps pd base Q.1 from by rw [hQ2.out]; exact ⟨X, Y, pa, pb, k, kv, .inl ⟨rfl, rfl⟩, hbD, hkl6.step hstS nS0, hla6.step hstS nSX nS0, hld6.1.step hstS nSY nS0, hld6.2.step hstS nSD⟩)
          have hstF := hidden (hstA.out.trans (hstS.mono mS.out))
          have hQ9 := hidden (show Q.2 = 9 by rw [hQ2.out])
          clear hbD hstS
          go_wp2_with fail
          go_ret
          exact ⟨_, o6, rfl, hstF.out, by rw [hQ9.out]; rfl, by (rw [if_neg (by rw [hQ9.out]; omega)]; exact hF.out)⟩
      · have hQ2 : Hid (Q = ({ s with oth := l1, d := d1, dead := true }, 9)) := hidden (by rw [hQ2.out, if_pos he1])
        have heI : (e1 == 0) = false := by simpa using he1
        obtain ⟨⟨-, -, -, -, -, -, -, c9⟩, -, hfz9, -⟩ := hb5.cells
        have hfz9 := hfz9 9
        have hbD := hb5.setDead true
        have hstS := hb5.setStep 9 (.bool true)
        have hF := hidden (show StoreAt (w5.setCell ⟨ps, 9, none⟩ (.bool true)) o5 S X Y D ps pd base Q.1 from by rw [hQ2.out]; exact ⟨X, Y, pa, pb, k, kv, .inl ⟨rfl, rfl⟩, hbD, hkl5.step hstS nS0, hla5.step hstS nSX nS0, hld5.1.step hstS nSY nS0, hld5.2.step hstS nSD⟩)
        have hstF := hidden (hstA.out.trans (hstS.mono mS.out))
        have hQ9 := hidden (show Q.2 = 9 by rw [hQ2.out])
        clear hbD hstS
        go_wp2_with fail
        go_ret
        exact ⟨_, o5, rfl, hstF.out, by rw [hQ9.out]; rfl, by (rw [if_neg (by rw [hQ9.out]; omega)]; exact hF.out)⟩
end Go.Proofs.YtfgggkheadfiaaaR
