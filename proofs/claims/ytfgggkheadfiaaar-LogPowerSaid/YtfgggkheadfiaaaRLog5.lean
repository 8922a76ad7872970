/- Contracts: log.small, slices.Grow and slices.Concat of bytes. -/
import Derived.Test.YtfgggkheadfiaaaRLog4
namespace Go.Proofs.YtfgggkheadfiaaaR
open Go Go.RowKit
attribute [local go_sem ↓] Go.wp_at_zero Go.wp_at_succ

/-- A part of bytes. -/
theorem Bytes.part {w : World} {o : Own} {b off n c : Nat} {l : List UInt8} (h : Bytes w o (.slice (some ⟨b, off, none⟩) n c) l) (lo hi : Nat) (h1 : lo ≤ hi) (h2 : hi ≤ l.length) :
    Bytes w o (.slice (some ⟨b, off + lo, none⟩) (hi - lo) (c - lo)) ((l.drop lo).take (hi - lo)) := by
  have hlen : ((l.drop lo).take (hi - lo)).length = hi - lo := by simp; omega
  rcases h.cases with ⟨⟨a, c', hv⟩, rfl⟩ | ⟨b', off', cap, hv, hl, hm, ho, hb, hr⟩
  · simp only [Value.slice.injEq] at hv
    simp only [List.length_nil, Nat.le_zero] at h2
    subst h2
    exact .inl ⟨⟨some ⟨b, off + lo, none⟩, c - lo, by rw [Nat.zero_sub]⟩, by simp, by simp⟩
  · simp only [Value.slice.injEq, Option.some.injEq, Addr.mk.injEq] at hv
    obtain ⟨⟨rfl, rfl, _⟩, rfl, rfl⟩ := hv
    refine .inr ⟨b, off + lo, c - lo, by rw [hlen], by rw [hlen]; omega, by omega, ho, hb, ?_⟩
    rw [← bvs_take, ← bvs_drop]
    exact range_part hr lo (hi - lo)

set_option maxRecDepth 100000 in
set_option maxHeartbeats 800000 in
theorem growB_any (n : Nat) (hn : n ≤ 1000000) (w : World) : Calls Try.prog 140 #[.slice none 0 0, .int .i64 (n : Int)] w fun e w' => ∃ v, e = .returned v ∧ w.grownBy w' none ∧ w'.ownsRow w.heap.size 5 1 v 0 (bvs []) := by
  by_cases h0 : n = 0
  · subst h0
    go_enter Try.func140, Try.ntmps140
    go_wp2_with fail
    go_ret
    exact ⟨_, rfl, ⟨rfl, rfl, rfl, Nat.le_refl _, fun _ _ _ => rfl⟩, World.ownsRow_nil _ _ _ _⟩
  · obtain ⟨i, z, hq, hz, e2, e3, e4⟩ := info_of inf5
    have hold : (Builtin.firstCells i.size 0 (.slice none 0 0)).run Try.prog w.drew = .ok ([] : List Value).toArray w.drew := run_firstCells_none w.drew i.size 0 0 0
    have hr := Lib.run_append_grow_zeros (P := Try.prog) w 28 3 28 5 i z .i64 .i64 Try.underlying28 Try.underlying3 hq hz none 0 0 [] hold n (by omega) (by omega) (by omega) (by omega) (by rw [e3]; omega)
      (by rw [e3]; rw [nextslicecap_zero (by omega)]; omega)
    rw [Nat.zero_add] at hr
    have hG := grownCap_ge w n 0 5
    have hG2 := grownCap_le_maxLen w n 0 5 (by simp only [maxLen]; omega)
    have hcur : (([] : List Value).toArray ++ Builtin.zeroCells z.cells n ++ Builtin.zeroCells z.cells (grownCap w n 0 5 - n)).size = grownCap w n 0 5 * 1 := by
      have : z.cells.size = 1 := by rw [e4]; rfl
      simp [Builtin.zeroCells, this]; omega
    have hown := World.ownsRow_made (e := 5) (size := 1) (base := w.heap.size) w.drew _ _ (Nat.le_refl _) hG2 hcur
    have hgr := World.grownBy_alloc w.drew (.cells (([] : List Value).toArray ++ Builtin.zeroCells z.cells n ++ Builtin.zeroCells z.cells (grownCap w n 0 5 - n)) 5) none
    generalize hGe : grownCap w n 0 5 = G at *
    generalize hW : w.drew.alloc (.cells (([] : List Value).toArray ++ Builtin.zeroCells z.cells n ++ Builtin.zeroCells z.cells (G - n)) 5) = W at *
    have hrunH := hidden hr
    have hG3 : (G : Int) ≤ 9223372036854775807 := by simp only [maxLen] at hG2; omega
    have hpos : 0 < (n : Int) := by omega
    clear hr hold hcur hGe hW hq hz e2 e3 e4 hG2
    go_enter Try.func140, Try.ntmps140
    go_wp2_with ((with_reducible apply lit_append); exact hrunH.out; simp only [Act.put, List.setIfInBounds_toArray, List.set_cons_zero, List.set_cons_succ])
    go_ret
    exact ⟨_, rfl, ⟨hgr.os, hgr.tape, hgr.output, hgr.size, hgr.block⟩, hown⟩

theorem run_append_none {P : Program} (W : World) (t ty e : TypeId) (size : Nat) (hu : P.underlying t = some (.slice e)) (hs : (P.info? e).map (·.size) = some size) (a a' : Option Addr) (n c c' : Nat) (hn : n ≤ c) (hc : (n : Int) ≤ 9223372036854775807) :
    (Builtin.append_ #[t, t] ty #[.slice a n c, .slice a' 0 c']).run P W = .ok (.slice a n c) W := by
  cases hi : P.info? e with
  | none => simp [hi] at hs
  | some i =>
    have h63 : ¬ (9223372036854775807 < (n : Int)) := by omega
    have hf : (Builtin.firstCells i.size 0 (.slice a' 0 c')).run P W = .ok #[] W := by
      cases a' with
      | none => exact run_firstCells_none W i.size 0 0 c'
      | some x => exact run_firstCells_some W i.size 0 x 0 c' [] (by simp) (fun j v hj => by simp at hj)
    cases a <;> simp [Builtin.append_, run_underlying hu, sizeOf, typeInfo, hi, Builtin.lenOf, hn, hf, storeCells]

/-- Values that each read as the bytes told. -/
def RowsB (w : World) (o : Own) (vs : List Value) (ls : List (List UInt8)) : Prop := vs.length = ls.length ∧ ∀ (i : Nat) v l, vs[i]? = some v → ls[i]? = some l → Bytes w o v l
theorem RowsB.step {T : Nat → Prop} {w w' : World} {o o' : Own} {vs : List Value} {ls : List (List UInt8)} (h : RowsB w o vs ls) (s : Step T w o w' o') (hT : ¬ T 0) : RowsB w' o' vs ls :=
  ⟨h.1, fun i v l hv hl => (h.2 i v l hv hl).step s hT⟩
theorem Slc.cell {w : World} {o : Own} {a : Option Addr} {n c : Nat} {cs : List Value} (h : Slc w o (.slice a n c) n cs) (i : Nat) {x : Value} (hx : cs[i]? = some x) : ∃ b off, a = some ⟨b, off, none⟩ ∧ w.cell? ⟨b, off + i, none⟩ = some x ∧ b < w.heap.size ∧ (o b).1 = 0 := by
  rcases h with ⟨_, _, rfl⟩ | ⟨b, off, cap, hv, hl, hm, ho, hb, hr⟩
  · simp at hx
  · simp only [Value.slice.injEq] at hv
    exact ⟨b, off, hv.1, hr i _ hx, hb, ho⟩
set_option maxRecDepth 100000 in
set_option maxHeartbeats 1600000 in
theorem concat_any {w : World} {o : Own} {v : Value} {vs : List Value} {ls : List (List UInt8)} (hv : Slc w o v vs.length vs) (hr : RowsB w o vs ls) (htot : ls.flatten.length ≤ 1000000) (hmany : vs.length ≤ 1000000) :
    Calls Try.prog 117 #[v] w (Ret Nobody w o fun v w' o' => NewB w w' o' v ls.flatten) := by
  obtain ⟨a, c, rfl⟩ := slc_form hv
  have hln : ∀ k, (ls.take k).flatten.length ≤ 1000000 := fun k => by
    have : (ls.take k).flatten.length ≤ ls.flatten.length := by
      conv => rhs; rw [← List.take_append_drop k ls, List.flatten_append, List.length_append]
      omega
    omega
  have hsn : ∀ k l, ls[k]? = some l → (ls.take (k + 1)).flatten = (ls.take k).flatten ++ l := fun k l hl => by
    rw [List.take_add_one, hl]; simp
  have hl0 := hr.1
  have hkl : ∀ k, k < vs.length → ∃ x l, vs[k]? = some x ∧ ls[k]? = some l := fun k hk => ⟨_, _, List.getElem?_eq_getElem hk, List.getElem?_eq_getElem (by omega)⟩
  have hall : ls.take vs.length = ls := List.take_of_length_le (by omega)
  have hallH := hidden hall
  have hrH := hidden hr
  clear hall hl0 hr
  generalize hmm : vs.length = m at *
  clear hmm
  obtain ⟨tl, htl⟩ : ∃ tl : Nat → Nat, ∀ k, tl k = (ls.take k).flatten.length := ⟨_, fun _ => rfl⟩
  have htlH := hidden htl
  clear htl
  go_enter Try.func117, Try.ntmps117
  go_wp2_with fail
  go_loop [3, 11] (fun n i => ∃ k : Nat, k ≤ m ∧ i = .int .i64 k ∧ n = .int .i64 (tl k : Int)) (fun _ i => m - (intOf i).toNat)
  case atStart => exact ⟨0, Nat.zero_le _, rfl, by rw [htlH.out]; rfl⟩
  case round =>
    obtain ⟨k, hk, rfl, rfl⟩ := hrel
    by_cases hlt : k < m
    · obtain ⟨x, l, hx, hl⟩ := hkl k hlt
      obtain ⟨b, off, rfl, hc, hbl, hbo⟩ := hv.cell k hx
      obtain ⟨xa, xc, rfl⟩ := slc_form (hrH.out.2 k x l hx hl)
      have hlen : (tl (k + 1) : Int) = (tl k : Int) + (l.length : Int) := by rw [htlH.out, htlH.out, hsn k l hl, List.length_append]; omega
      have hb1 : tl (k + 1) ≤ 1000000 := by rw [htlH.out]; exact hln (k + 1)
      have hb2 : tl k ≤ 1000000 := by rw [htlH.out]; exact hln k
      have hlenH := hidden hlen
      have hb3 : (tl k : Int) + (l.length : Int) ≤ 1000000 := by omega
      clear hlen hb1 hx hl hv hrH hsn hln htot hkl hallH
      generalize tl k = N at *
      generalize l.length = M at *
      go_wp2_with fail
      go_round
      case rel => exact ⟨k + 1, hlt, by go_num, by rw [hlenH.out]⟩
      case measure => simp [intOf]; omega
    · obtain rfl : m = k := by omega
      have hg := growB_any (tl m) (by rw [htlH.out, hallH.out]; exact htot) w
      go_wp2_with fail
      refine hg.mono ?_; rintro e w1 ⟨v1, rfl, hg1, hown1⟩
      have hbel : Below w.heap.size w w1 := ⟨hg1.os, hg1.tape, hg1.output, hg1.size, fun k hk => hg1.block k hk (by simp)⟩
      clear hg
      obtain ⟨a1, c1, rfl⟩ := own_form hown1
      go_wp2_with fail
      go_loopw [6, 27] (fun out i wr => ∃ k : Nat, k ≤ m ∧ i = .int .i64 k ∧ wr.ownsRow w.heap.size 5 1 out (ls.take k).flatten.length (bvs (ls.take k).flatten) ∧ Below w.heap.size w wr) (fun _ i _ => m - (intOf i).toNat)
      case atStart => exact ⟨0, Nat.zero_le _, rfl, hown1, hbel⟩
      case round =>
        clear hown1 hbel hg1
        obtain ⟨k, hk, rfl, hown, hbel⟩ := hrel
        by_cases hlt : k < m
        · obtain ⟨x, l, hx, hl⟩ := hkl k hlt
          obtain ⟨b, off, rfl, hc, hbl, hbo⟩ := hv.cell k hx
          have hbx := hrH.out.2 k x l hx hl
          have hc2 : wr.cell? ⟨b, off + k, none⟩ = some x := by rw [World.cell?_of_block (a := ⟨b, off + k, none⟩) (hbel.block b hbl)]; exact hc
          have hs1 := hsn k l hl
          have hb1 := hln (k + 1)
          rw [hs1, List.length_append] at hb1
          have hsize := hbel.size
          obtain ⟨oa, oc, rfl⟩ := own_form hown
          have hcap : (ls.take k).flatten.length ≤ oc ∧ oc ≤ maxLen := by
            rcases hown.2 with ⟨h1, h2⟩ | ⟨g, cap, cur, h1, _, _, h2, h3, _⟩
            · simp only [Value.slice.injEq] at h1; omega
            · simp only [Value.slice.injEq] at h1; omega
          rcases hbx.cases with ⟨⟨xa, xc, rfl⟩, rfl⟩ | ⟨xb, xoff, xcap, rfl, hxl, hxm, hxo, hxb, hxr⟩
          · rw [List.append_nil] at hs1
            have hap := run_append_none (P := Try.prog) wr 28 28 5 1 Try.underlying28 (by kernel_rfl) oa xa (ls.take k).flatten.length oc xc hcap.1 (by simp only [List.length_nil] at hb1; omega)
            have hapH := hidden hap
            have hs1H := hidden hs1
            have hownH := hidden hown
            clear hap hs1 hown hx hl hv hrH hsn hln htot hkl hallH hb1 hcap hbx
            go_wp2_with ((with_reducible apply lit_append); exact hapH.out; simp only [Act.put, List.setIfInBounds_toArray, List.set_cons_zero, List.set_cons_succ])
            go_roundw
            case rel => exact ⟨k + 1, hlt, by go_num, by rw [hs1H.out]; exact hownH.out, hbel⟩
            case measure => simp [intOf]; omega
          · by_cases hm0 : l.length = 0
            · have hl00 : l = [] := List.eq_nil_of_length_eq_zero hm0
              subst hl00
              rw [List.append_nil] at hs1
              have hap := run_append_none (P := Try.prog) wr 28 28 5 1 Try.underlying28 (by kernel_rfl) oa (some ⟨xb, xoff, none⟩) (ls.take k).flatten.length oc xcap hcap.1 (by simp only [List.length_nil] at hb1; omega)
              have hapH := hidden hap
              have hs1H := hidden hs1
              have hownH := hidden hown
              clear hap hs1 hown hx hl hv hrH hsn hln htot hkl hallH hb1 hcap hbx
              go_wp2_with ((with_reducible apply lit_append); exact hapH.out; simp only [Act.put, List.setIfInBounds_toArray, List.set_cons_zero, List.set_cons_succ])
              go_roundw
              case rel => exact ⟨k + 1, hlt, by go_num, by rw [hs1H.out]; exact hownH.out, hbel⟩
              case measure => simp [intOf]; omega
            · have hxr2 : wr.rangeAt xb xoff (bvs l) := range_same hxr (hbel.block xb hxb)
              obtain ⟨g, cap, w3, hrun, hown3, hgrow, hat, hlt3⟩ := run_append_bytes wr (base := w.heap.size) hsize _ (ls.take k).flatten.length _ hown xb xoff l.length xcap l rfl hxr2 (by omega) (by omega)
              have hb3 : Below w.heap.size w w3 := hbel.grown hgrow hbel.size (fun k hk => (hown.lt k hk).1)
              rw [← List.length_append, ← hs1] at hown3
              have hrunH := hidden hrun
              have hownH := hidden hown3
              have hs1H := hidden hs1
              have hlsH := hidden hb1
              clear hrun hown3 hown hs1 hx hl hv hrH hsn hln htot hkl hallH hb1 hcap hbx hxr hxr2 hat
              go_wp2_with ((with_reducible apply lit_append); exact hrunH.out; simp only [Act.put, List.setIfInBounds_toArray, List.set_cons_zero, List.set_cons_succ])
              go_roundw
              case rel => exact ⟨k + 1, hlt, by go_num, by have h := hownH.out; rw [hs1H.out, List.length_append] at h ⊢; exact h, hb3⟩
              case measure => simp [intOf]; omega
        · obtain rfl : m = k := by omega
          rw [hallH.out] at hown
          obtain ⟨oa, oc, rfl⟩ := own_form hown
          go_wp2_with fail
          go_ret
          exact ⟨_, (fun k => if k < w.heap.size then o k else (0, 0)), rfl, ⟨hbel.os, hbel.tape, hbel.output, hbel.size, fun k hk => if_pos hk, fun k hk _ => hbel.block k hk⟩, hown, fun k hk => if_neg (by have := (hown.lt k hk).1; omega)⟩

theorem be_drop (n k : Nat) (x : BitVec 64) (hk : k ≤ n) : (be n x).drop (n - k) = be k x := by
  induction n with
  | zero => have : k = 0 := by omega
            subst this; rfl
  | succ n ih =>
    by_cases h : k = n + 1
    · subst h; simp
    · rw [show n + 1 - k = (n - k) + 1 from by omega, be_succ, List.drop_succ_cons]
      exact ih (by omega)
set_option maxRecDepth 100000 in
set_option maxHeartbeats 800000 in
theorem small_any (n k : Nat) (hn : n ≤ 1000000) (hk : k ≤ 8) (hk1 : 1 ≤ k) (w : World) (o : Own) : Calls Try.prog 118 #[.int .i64 (n : Int), .int .i64 (k : Int)] w (Ret Nobody w o fun v w' o' => Bytes w' o' v (be k (BitVec.ofNat 64 n))) := by
  have hx : ((BitVec.ofNat 64 n).toNat : Int) = (n : Int) := by simp; omega
  have hc := wuint_any (Bytes.nil w o) (by simp) (BitVec.ofNat 64 n)
  rw [hx] at hc
  clear hx
  go_enter Try.func118, Try.ntmps118
  go_wp2_with fail
  refine hc.mono ?_; rintro e w1 ⟨v1, o1, rfl, hs, hn1⟩
  have hb := hn1.bytes
  rw [List.nil_append] at hb
  rcases hb.cases with ⟨_, h0⟩ | ⟨b, off, cap, rfl, hl, hm, ho, hbl, hr⟩
  · have := length_be 8 (BitVec.ofNat 64 n); rw [h0] at this; simp at this
  rw [length_be] at hb hl ⊢
  have hp := hb.part (8 - k) 8 (by omega) (by rw [length_be]; omega)
  rw [be_drop 8 k _ hk, List.take_of_length_le (by rw [length_be]; omega)] at hp
  have hpH := hidden hp
  clear hb hp hr hn1 hc
  have hl' : (8 : Int) ≤ (cap : Int) := by omega
  have hm' : (cap : Int) ≤ 9223372036854775807 := by simp only [maxLen] at hm; omega
  have hne : ¬ (cap = 8 - k) := by omega
  go_wp2_with fail
  go_ret
  exact ⟨_, o1, rfl, hs, hpH.out⟩
end Go.Proofs.YtfgggkheadfiaaaR
