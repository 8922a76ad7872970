/- Contracts: Reset, Batches. -/
import Derived.Test.YtfgggkheadfiaaaRLog14
namespace Go.Proofs.YtfgggkheadfiaaaR
open Go Go.RowKit
attribute [local go_sem ↓] Go.wp_at_zero Go.wp_at_succ

section
variable {w : World} {o : Own} {L D p pd : Nat} {s : LogM × DiskM}
set_option maxRecDepth 100000 in
set_option maxHeartbeats 6400000 in
theorem reset_any (hL : L ≠ 0) (hD : D ≠ 0) (hLD : L ≠ D) (h : LD w o L D p pd s) (hrow : s.2.row.length ≤ 700000) :
    Calls Try.prog 43 #[.pointer (some ⟨p, 0, none⟩)] w (Ret (In L D) w o fun v w' o' => v = .int .i64 (LogM.reset s).2 ∧ LD w' o' L D p pd (LogM.reset s).1) := by
  have hN : ¬ In L D 0 := fun h => by rcases h with h | h <;> omega
  have s1 := (Step.refl Nobody w o).alloc (.cells #[.pointer (some ⟨p, 0, none⟩)] 57) (0, 0)
  have bl := Box.new w o 57 (.pointer (some ⟨p, 0, none⟩))
  have z1 : (w.alloc (.cells #[.pointer (some ⟨p, 0, none⟩)] 57)).heap.size = w.heap.size + 1 := by simp
  have hld := h.step s1 (fun h => h) (fun h => h) (fun h => h)
  have hal : Hid (Calls Try.prog 81 #[.pointer (some ⟨p, 0, none⟩), .slice (some ⟨w.heap.size + 1, 0, none⟩) 2 2]
      ((w.alloc (.cells #[.pointer (some ⟨p, 0, none⟩)] 57)).alloc (.cells #[.func (.func 84) #[.pointer (some ⟨p, 0, none⟩)] #[], .func (.func 93) #[] #[.pointer (some ⟨w.heap.size, 0, none⟩)]] 30))
      (Ret (In L D) w o fun v w' o' => v = .int .i64 (LogM.reset s).2 ∧ LD w' o' L D p pd (LogM.reset s).1)) := by
    refine hidden ?_
    generalize w.alloc (.cells #[.pointer (some ⟨p, 0, none⟩)] 57) = W3 at *
    generalize tagAt o w.heap.size (0, 0) = o3 at *
    rw [← z1]
    generalize w.heap.size = x0 at bl ⊢
    have s4 := (Step.refl Nobody W3 o3).alloc (.cells #[.func (.func 84) #[.pointer (some ⟨p, 0, none⟩)] #[], .func (.func 93) #[] #[.pointer (some ⟨x0, 0, none⟩)]] 30) (0, 0)
    have hsl := func_slc W3 o3 30 [.func (.func 84) #[.pointer (some ⟨p, 0, none⟩)] #[], .func (.func 93) #[] #[.pointer (some ⟨x0, 0, none⟩)]] 2 rfl (by omega)
    have hld4 := hld.step s4 (fun h => h) (fun h => h) (fun h => h)
    have bl4 := bl.step s4 (fun h => h)
    have sT4 : Step (In L D) w o _ _ := (s1.trans s4).in0
    cases hdd : (s.1.dead || s.2.dead) with
    | true =>
      have hE : LogM.reset s = (s, 9) := by unfold LogM.reset LogM.alive; rw [if_pos hdd]
      refine (alive_dead hld4 hdd _ _ _).mono ?_
      rintro e w' ⟨v, o', rfl, hs, rfl⟩
      rw [hE]
      exact ⟨_, o', rfl, sT4.trans hs.in0, rfl, hld4.step hs (fun h => h) (fun h => h) (fun h => h)⟩
    | false =>
      obtain ⟨fs, hfs⟩ : ∃ fs : List LogM.Act1, fs = [LogM.head, LogM.reset2] := ⟨_, rfl⟩
      have hE : LogM.reset s = LogM.goes (LogM.stN fs s) (LogM.erN fs s) 0 2 := by
        rw [LogM.goes_steps fs s 2 0 (by rw [hfs]; rfl)]
        unfold LogM.reset LogM.alive
        rw [if_neg (by rw [hdd]; simp), hfs]; rfl
      have e1 : LogM.stN fs s 1 = (LogM.head s).1 ∧ LogM.erN fs s 0 = (LogM.head s).2 := by rw [hfs]; exact ⟨rfl, rfl⟩
      have e2 : LogM.stN fs s 2 = (LogM.reset2 (LogM.stN fs s 1)).1 ∧ LogM.erN fs s 1 = (LogM.reset2 (LogM.stN fs s 1)).2 := by rw [hfs]; exact ⟨rfl, rfl⟩
      clear hfs
      refine (alive_any hL hD hLD (LogM.stN fs s) (LogM.erN fs s) hld4 hdd 2 (by omega) _ rfl (fun i => [84, 93].getD i 0) (fun i => ([#[.pointer (some ⟨p, 0, none⟩)], #[]] : List (Array Value)).getD i #[]) (fun i => ([#[], #[.pointer (some ⟨x0, 0, none⟩)]] : List (Array Value)).getD i #[]) ?_ ?_ _ _ hsl ?_).mono ?_
      · intro i hi
        have : i = 0 ∨ i = 1 := by omega
        rcases this with rfl | rfl <;> rfl
      · intro i args x hi
        have : i = 0 ∨ i = 1 := by omega
        rcases this with rfl | rfl
        · exact Try.call84 args x
        · exact Try.call93 args x
      · intro i hi hj w1 o1 hst hl1
        have B0 := bl4.step hst hN
        have : i = 0 ∨ i = 1 := by omega
        rcases this with rfl | rfl
        · have := head_any (s := LogM.stN fs s 0) hL hD hLD hl1 (by show s.2.row.length ≤ 900000; omega)
          show Calls Try.prog 84 _ w1 _
          rw [e1.1, e1.2]; exact this
        · have := reset2_any hL hLD hl1 x0 B0
          show Calls Try.prog 93 _ w1 _
          rw [e2.1, e2.2]; exact this
      · rintro e w' ⟨v, o', rfl, hs, rfl, hl⟩
        rw [hE]
        exact ⟨_, o', rfl, sT4.trans hs, rfl, hl⟩
  clear hld bl s1 h z1
  go_enter Try.func43, Try.ntmps43
  go_wp2_with fail
  refine hal.out.mono ?_; rintro e w' ⟨v, o', rfl, hs, rfl, hl⟩
  go_wp2_with fail
  go_ret
  exact ⟨_, o', rfl, hs, rfl, hl⟩
end

/-- New rows of bytes: each in memory that the call made. -/
def RowsN (w w' : World) (vs : List Value) (ls : List (List UInt8)) : Prop := vs.length = ls.length ∧ ∀ (i : Nat) v l, vs[i]? = some v → ls[i]? = some l → w'.ownsRow w.heap.size 5 1 v l.length (bvs l)
theorem RowsN.below {w w' w'' : World} {vs : List Value} {ls : List (List UInt8)} (h : RowsN w w' vs ls) (hb : Below w'.heap.size w' w'') : RowsN w w'' vs ls :=
  ⟨h.1, fun i v l hv hl => by
    have := h.2 i v l hv hl
    refine ⟨this.1, ?_⟩
    rcases this.2 with hn | ⟨g, cap, cur, rfl, h1, h2, rest⟩
    · exact .inl hn
    · exact .inr ⟨g, cap, cur, rfl, h1, by rw [hb.block g (lt_of_block h2)]; exact h2, rest⟩⟩
theorem RowsN.snoc {w w' : World} {vs : List Value} {ls : List (List UInt8)} {v : Value} {l : List UInt8} (h : RowsN w w' vs ls) (hb : w'.ownsRow w.heap.size 5 1 v l.length (bvs l)) : RowsN w w' (vs ++ [v]) (ls ++ [l]) := by
  refine ⟨by simp [h.1], fun i v' l' hv hl => ?_⟩
  by_cases hi : i < vs.length
  · rw [List.getElem?_append_left hi] at hv
    rw [List.getElem?_append_left (by rw [← h.1]; exact hi)] at hl
    exact h.2 i v' l' hv hl
  · rw [List.getElem?_append_right (by omega)] at hv
    rw [List.getElem?_append_right (by rw [← h.1]; omega), ← h.1] at hl
    cases hj : i - vs.length with
    | zero => rw [hj] at hv hl; simp at hv hl; subst hv; subst hl; exact hb
    | succ j => rw [hj] at hv; simp at hv
theorem ownsRow_base {w : World} {b b' : Nat} {e : TypeId} {size n : Nat} {v : Value} {xs : List Value} (h : w.ownsRow b' e size v n xs) (hb : b ≤ b') : w.ownsRow b e size v n xs := by
  refine ⟨h.1, ?_⟩
  rcases h.2 with hn | ⟨g, cap, cur, rfl, h1, rest⟩
  · exact .inl hn
  · exact .inr ⟨g, cap, cur, rfl, Nat.le_trans hb h1, rest⟩
theorem own_bytes {w : World} {o : Own} {b : Nat} {v : Value} {l : List UInt8} (h : w.ownsRow b 5 1 v l.length (bvs l)) (ho : ∀ k, v.ownBlock = some k → (o k).1 = 0) : Bytes w o v l := by
  rcases h.2 with ⟨rfl, h0⟩ | ⟨g, cap, cur, rfl, h1, h2, h3, h4, h5, h6⟩
  · exact .inl ⟨⟨_, _, rfl⟩, h0, by rw [List.eq_nil_of_length_eq_zero h0]; rfl⟩
  · refine .inr ⟨g, 0, cap, rfl, h3, h4, ho g rfl, lt_of_block h2, ?_⟩
    have : w.rangeAt g 0 ((cur.toList.drop 0).take l.length) := range_of_block (w := w) (b := g) (cs := cur.toList) (E := 5) (fr := (0, 0)) (by simpa using h2) 0 l.length
    rw [List.drop_zero] at this
    rw [Nat.mul_one] at h6
    rwa [h6] at this

set_option maxRecDepth 100000 in
set_option maxHeartbeats 3200000 in
theorem batches_any {w : World} {o : Own} {L p pd : Nat} {m : LogM} (h : LogAt w o L p pd m) :
    Calls Try.prog 51 #[.pointer (some ⟨p, 0, none⟩)] w fun e w' => ∃ v vs, e = .returned v ∧ Below w.heap.size w w' ∧ w'.ownsRow w.heap.size 28 1 v m.records.length vs ∧ RowsN w w' vs m.records := by
  obtain ⟨g1, g2, g3, g4, g5, g6, g7⟩ := h.wf
  obtain ⟨rv, vs, ⟨-, -, -, -, -, -, c6, -⟩, -, hro, hv, -, -⟩ := h.open
  obtain ⟨ra, rc, rfl⟩ := own_form hro
  have hplt := h.lt
  obtain ⟨rs, hrs⟩ : ∃ rs, m.records = rs := ⟨_, rfl⟩
  rw [hrs] at hro hv g6 g7 ⊢
  rw [hrs] at c6
  clear hrs h
  have hn : rs.length ≤ 2000 := by omega
  have hcell : ∀ k x, vs[k]? = some x → ∃ g, ra = some ⟨g, 0, none⟩ ∧ w.cell? ⟨g, k, none⟩ = some x ∧ g < w.heap.size := by
    intro k x hx
    rcases hro.2 with ⟨_, h0⟩ | ⟨g, cap, cur, h1, h2, h3, h4, h5, h6, h7⟩
    · have := hv.1; have := (List.getElem?_eq_some_iff.1 hx).1; omega
    · simp only [Value.slice.injEq] at h1
      refine ⟨g, h1.1, ?_, lt_of_block h3⟩
      rw [cell_of_block (cs := cur.toList) (E := 28) (fr := (0, 0)) (by simpa using h3)]
      rw [← h7, List.getElem?_take] at hx
      split at hx
      · exact hx
      · cases hx
  have hkl : ∀ k, k < rs.length → ∃ x l, vs[k]? = some x ∧ rs[k]? = some l ∧ l.length ≤ 960000 := fun k hk => ⟨_, _, List.getElem?_eq_getElem (by have := hv.1; omega), List.getElem?_eq_getElem hk, g7 _ (List.getElem_mem hk)⟩
  have hvH := hidden hv
  have hsn : ∀ k l, rs[k]? = some l → rs.take (k + 1) = rs.take k ++ [l] := fun k l hl => by rw [List.take_add_one, hl]; rfl
  have hsnH := hidden hsn
  have hallH := hidden (List.take_length (l := rs))
  clear hv hro hsn g1 g2 g3 g4 g5 g6 g7
  obtain ⟨n, hn2⟩ : ∃ n, rs.length = n := ⟨_, rfl⟩
  rw [hn2] at hallH hkl c6 hn ⊢
  have hn2H := hidden hn2
  clear hn2
  go_enter Try.func51, Try.ntmps51
  go_wp2_with fail
  go_loopw [3, 13] (fun out i wr => ∃ k : Nat, ∃ us, k ≤ n ∧ i = .int .i64 k ∧ wr.ownsRow w.heap.size 28 1 out k us ∧ RowsN w wr us (rs.take k) ∧ Below w.heap.size w wr) (fun _ i _ => n - (intOf i).toNat)
  case atStart => exact ⟨0, [], Nat.zero_le _, rfl, World.ownsRow_nil _ _ _ _, ⟨rfl, fun i v l hv _ => by simp at hv⟩, Below.refl _ _⟩
  case round =>
    obtain ⟨k, us, hk, rfl, hown, hrows, hbel⟩ := hrel
    by_cases hlt : k < n
    · obtain ⟨x, l, hx, hl, hll⟩ := hkl k hlt
      obtain ⟨g, rfl, hc, hgl⟩ := hcell k x hx
      have hbx := hvH.out.2 k x l hx hl
      obtain ⟨xa, xc, rfl⟩ := slc_form hbx
      have hc2 : wr.cell? ⟨g, k, none⟩ = some (.slice xa l.length xc) := by rw [World.cell?_of_block (a := ⟨g, k, none⟩) (hbel.block g hgl)]; exact hc
      have hstepN : Step Nobody w o wr (fun k => if k < w.heap.size then o k else (0, 0)) := ⟨hbel.os, hbel.tape, hbel.output, hbel.size, fun k hk => if_pos hk, fun k hk _ => hbel.block k hk⟩
      have hcl := clone_any (hbx.step hstepN (fun h => h)) (by omega)
      obtain ⟨oa, oc, rfl⟩ := own_form hown
      have hsize := hbel.size
      have hs1 := hsnH.out k l hl
      have hs1H := hidden hs1
      have hrowsH := hidden hrows
      have hownH := hidden hown
      clear hbx hx hl hcell hkl hvH hs1 hstepN hrows hown hc
      go_wp2_with fail
      refine hcl.mono ?_; rintro e w1 ⟨v1, o1, rfl, hst1, hn1⟩
      have hb1 : Below wr.heap.size wr w1 := hst1.below
      obtain ⟨va, vc, rfl⟩ := own_form hn1.1
      have hb1' : Below w.heap.size w w1 := hbel.trans (hb1.mono hsize)
      have hsz1 := hb1.size
      have hb2 : Below w1.heap.size w1 (w1.alloc (.cells #[.slice va l.length vc] 28)) := (Below.refl _ _).alloc (Nat.le_refl _) _
      have hnb : (w1.alloc (.cells #[.slice va l.length vc] 28)).heap[w1.heap.size]? = some (.cells #[.slice va l.length vc] 28 (0, 0)) := heap_alloc_new w1 _
      have hown2 : (w1.alloc (.cells #[.slice va l.length vc] 28)).ownsRow w.heap.size 28 1 (.slice oa k oc) k us := by
        refine ⟨hownH.out.1, ?_⟩
        rcases hownH.out.2 with hnn | ⟨g', cap, cur, hv', h1, h2, rest⟩
        · exact .inl hnn
        · exact .inr ⟨g', cap, cur, hv', h1, by rw [hb2.block g' (by have := lt_of_block h2; omega), hb1.block g' (lt_of_block h2)]; exact h2, rest⟩
      obtain ⟨g2, cap2, w3, hrun, hown3, hgrow, hat, hlt3⟩ := run_append_slices (w1.alloc (.cells #[.slice va l.length vc] 28)) (base := w.heap.size) (by simp; omega) _ _ _ hown2 w1.heap.size (.slice va l.length vc) rfl (range_whole (cs := [.slice va l.length vc]) hnb) (by omega)
      have hb3 : Below w.heap.size w w3 := (hb1'.trans (hb2.mono (by omega))).grown hgrow (by simp; omega) (fun k hk => (hown2.lt k hk).1)
      have hrow3 : RowsN w w3 (us ++ [.slice va l.length vc]) (rs.take (k + 1)) := by
        rw [hs1H.out]
        have hkeepG : ∀ {v : Value} {l' : List UInt8}, (w1.alloc (.cells #[.slice va l.length vc] 28)).ownsRow w.heap.size 5 1 v l'.length (bvs l') → w3.ownsRow w.heap.size 5 1 v l'.length (bvs l') := fun {v l'} h => by
          refine ⟨h.1, ?_⟩
          rcases h.2 with hnn | ⟨g', cap, cur, hv', h1, h2, rest⟩
          · exact .inl hnn
          · refine .inr ⟨g', cap, cur, hv', h1, ?_, rest⟩
            rw [hgrow.block g' (lt_of_block h2)]
            · exact h2
            · intro hx
              rcases hown2.2 with ⟨h3, _⟩ | ⟨g3, cap3, cur3, h3, _, h4, _⟩
              · rw [h3] at hx; simp [Value.ownBlock] at hx
              · rw [h3] at hx
                simp only [Value.ownBlock, Option.some.injEq] at hx
                subst hx
                rw [h4] at h2; cases h2
        have h1 := (hrowsH.out.below hb1).below hb2
        have hl2 : (w1.alloc (.cells #[.slice va l.length vc] 28)).ownsRow w.heap.size 5 1 (.slice va l.length vc) l.length (bvs l) := by
          refine ownsRow_base (b' := wr.heap.size) ?_ hsize
          refine ⟨hn1.1.1, ?_⟩
          rcases hn1.1.2 with hnn | ⟨g', cap, cur, hv', h1, h2, rest⟩
          · exact .inl hnn
          · exact .inr ⟨g', cap, cur, hv', h1, by rw [hb2.block g' (lt_of_block h2)]; exact h2, rest⟩
        exact ⟨by simp [h1.1], fun i v' l' hv hl => hkeepG ((h1.snoc hl2).2 i v' l' hv hl)⟩
      have hrunH := hidden hrun
      have hown3H := hidden hown3
      have hrow3H := hidden hrow3
      clear hrun hown3 hrow3 hown2 hat hnb hcl hn1 hst1
      go_wp2_with ((with_reducible apply lit_append); exact hrunH.out; simp only [Act.put, List.setIfInBounds_toArray, List.set_cons_zero, List.set_cons_succ])
      go_roundw
      case rel => exact ⟨k + 1, _, hlt, by go_num, hown3H.out, hrow3H.out, hb3⟩
      case measure => simp [intOf]; omega
    · obtain rfl : n = k := by omega
      rw [hallH.out] at hrows
      obtain ⟨oa, oc, rfl⟩ := own_form hown
      go_wp2_with fail
      go_ret
      exact ⟨_, us, rfl, hbel, hown, hrows⟩
theorem batches_nil (w : World) : Calls Try.prog 51 #[.pointer none] w fun e w' => e = .returned (.slice none 0 0) ∧ w = w' := by
  go_enter Try.func51, Try.ntmps51
  go_wp2
  go_ret
  exact ⟨rfl, rfl⟩
end Go.Proofs.YtfgggkheadfiaaaR
