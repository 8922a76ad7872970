/- Contracts: Grow and Concat of lines. -/
import Derived.Test.YtfgggkheadfiaaaRSk8
namespace Go.Proofs.YtfgggkheadfiaaaR
open Go Go.RowKit
attribute [local go_sem ↓] Go.wp_at_zero Go.wp_at_succ

theorem grownCap_bound (w : World) (n : Nat) (hn : n ≤ 100000) : grownCap w n 0 113 ≤ maxLen := grownCap_le_maxLen w n 0 113 (by simp only [maxLen]; omega)
set_option maxRecDepth 100000 in
set_option maxHeartbeats 800000 in
theorem growL_any (n : Nat) (hn : n ≤ 100000) (w : World) : Calls Try.prog 139 #[.slice none 0 0, .int .i64 (n : Int)] w fun e w' => ∃ v, e = .returned v ∧ w.grownBy w' none ∧ w'.ownsRow w.heap.size 113 2 v 0 [] := by
  by_cases h0 : n = 0
  · subst h0
    go_enter Try.func139, Try.ntmps139
    go_wp2_with fail
    go_ret
    exact ⟨_, rfl, ⟨rfl, rfl, rfl, Nat.le_refl _, fun _ _ _ => rfl⟩, World.ownsRow_nil _ _ _ _⟩
  · obtain ⟨i, z, hq, hz, e2, e3, e4⟩ := info_of inf113
    have hold : (Builtin.firstCells i.size 0 (.slice none 0 0)).run Try.prog w.drew = .ok ([] : List Value).toArray w.drew := run_firstCells_none w.drew i.size 0 0 0
    have hr := Lib.run_append_grow_zeros (P := Try.prog) w 93 3 93 113 i z .i64 .i64 Try.underlying93 Try.underlying3 hq hz none 0 0 [] hold n (by omega) (by omega) (by omega) (by omega) (by rw [e3]; omega)
      (by rw [e3]; rw [nextslicecap_zero (by omega)]; omega)
    rw [Nat.zero_add] at hr
    have hG := grownCap_ge w n 0 113
    have hG2 := grownCap_bound w n hn
    have hcur : (([] : List Value).toArray ++ Builtin.zeroCells z.cells n ++ Builtin.zeroCells z.cells (grownCap w n 0 113 - n)).size = grownCap w n 0 113 * 2 := by
      have hz2 : z.cells.size = 2 := by rw [e4]; rfl
      simp only [Array.size_append, List.size_toArray, List.length_nil, size_zeroCells, hz2]
      omega
    have hown := World.ownsRow_made (e := 113) (size := 2) (base := w.heap.size) w.drew _ _ (Nat.le_refl _) hG2 hcur
    have hgr := World.grownBy_alloc w.drew (.cells (([] : List Value).toArray ++ Builtin.zeroCells z.cells n ++ Builtin.zeroCells z.cells (grownCap w n 0 113 - n)) 113) none
    generalize hGe : grownCap w n 0 113 = G at *
    generalize hW : w.drew.alloc (.cells (([] : List Value).toArray ++ Builtin.zeroCells z.cells n ++ Builtin.zeroCells z.cells (G - n)) 113) = W at *
    have hrunH := hidden hr
    have hG3 : (G : Int) ≤ 9223372036854775807 := by simp only [maxLen] at hG2; omega
    have hpos : 0 < (n : Int) := by omega
    clear hr hold hcur hGe hW hq hz e2 e3 e4 hG2
    go_enter Try.func139, Try.ntmps139
    go_wp2_with ((with_reducible apply lit_append); exact hrunH.out; simp only [Act.put, List.setIfInBounds_toArray, List.set_cons_zero, List.set_cons_succ])
    go_ret
    exact ⟨_, rfl, ⟨hgr.os, hgr.tape, hgr.output, hgr.size, hgr.block⟩, hown⟩

set_option maxRecDepth 100000 in
set_option maxHeartbeats 1600000 in
theorem concatL_any {w : World} {o : Own} {v : Value} {vs : List Value} {ns : List Nat} {css : List (List Value)} (hv : Slc w o v vs.length vs)
    (hr : ∀ k, k < vs.length → ∃ x n cs, vs[k]? = some x ∧ ns[k]? = some n ∧ css[k]? = some cs ∧ Slc w o x n cs ∧ cs.length = n * 2 ∧ ∀ u ∈ cs, u.oneCell' = true)
    (hns : ns.length = vs.length) (hcs : css.length = vs.length) (htot : ∀ k, (ns.take k).sum ≤ 100000) (hmany : vs.length ≤ 1000000) :
    Calls Try.prog 112 #[v] w (Ret Nobody w o fun v w' o' => w'.ownsRow w.heap.size 113 2 v ns.sum css.flatten ∧ o' = ext w o) := by
  obtain ⟨a, c, rfl⟩ := slc_form hv
  have hsn : ∀ k n cs, ns[k]? = some n → css[k]? = some cs → (ns.take (k + 1)).sum = (ns.take k).sum + n ∧ (css.take (k + 1)).flatten = (css.take k).flatten ++ cs := fun k n cs h1 h2 => by
    rw [List.take_add_one, h1, List.take_add_one, h2]; simp
  have hall : ns.take vs.length = ns ∧ css.take vs.length = css := ⟨List.take_of_length_le (by omega), List.take_of_length_le (by omega)⟩
  have hallH := hidden hall
  have hrH := hidden hr
  have hsnH := hidden hsn
  have htH := hidden htot
  clear hall hr hns hcs hsn htot
  generalize hmm : vs.length = m at *
  clear hmm
  obtain ⟨tl, htl⟩ : ∃ tl : Nat → Nat, ∀ k, tl k = (ns.take k).sum := ⟨_, fun _ => rfl⟩
  have htlH := hidden htl
  clear htl
  go_enter Try.func112, Try.ntmps112
  go_wp2_with fail
  go_loop [3, 11] (fun n i => ∃ k : Nat, k ≤ m ∧ i = .int .i64 k ∧ n = .int .i64 (tl k : Int)) (fun _ i => m - (intOf i).toNat)
  case atStart => exact ⟨0, Nat.zero_le _, rfl, by rw [htlH.out]; rfl⟩
  case round =>
    obtain ⟨k, hk, rfl, rfl⟩ := hrel
    by_cases hlt : k < m
    · obtain ⟨x, n, cs, hx, hn, hc0, hsl, -, -⟩ := hrH.out k hlt
      obtain ⟨b, off, rfl, hc, hbl, hbo⟩ := hv.cell k hx
      obtain ⟨xa, xc, rfl⟩ := slc_form hsl
      have hlen : (tl (k + 1) : Int) = (tl k : Int) + (n : Int) := by rw [htlH.out, htlH.out, (hsnH.out k n cs hn hc0).1]; omega
      have hb1 : tl (k + 1) ≤ 100000 := by rw [htlH.out]; exact htH.out (k + 1)
      have hb2 : tl k ≤ 100000 := by rw [htlH.out]; exact htH.out k
      have hlenH := hidden hlen
      have hb3 : (tl k : Int) + (n : Int) ≤ 100000 := by omega
      clear hlen hb1 hx hn hc0 hsl hv hrH hsnH hallH
      generalize tl k = N at *
      go_wp2_with fail
      go_round
      case rel => exact ⟨k + 1, hlt, by go_num, by rw [hlenH.out]⟩
      case measure => simp [intOf]; omega
    · obtain rfl : m = k := by omega
      have hg := growL_any (tl m) (by rw [htlH.out]; exact htH.out m) w
      go_wp2_with fail
      refine hg.mono ?_; rintro e w1 ⟨v1, rfl, hg1, hown1⟩
      have hbel : Below w.heap.size w w1 := ⟨hg1.os, hg1.tape, hg1.output, hg1.size, fun k hk => hg1.block k hk (by simp)⟩
      clear hg
      obtain ⟨a1, c1, rfl⟩ := own_form hown1
      go_wp2_with fail
      go_loopw [6, 27] (fun out i wr => ∃ k : Nat, k ≤ m ∧ i = .int .i64 k ∧ wr.ownsRow w.heap.size 113 2 out (tl k) (css.take k).flatten ∧ Below w.heap.size w wr) (fun _ i _ => m - (intOf i).toNat)
      case atStart => exact ⟨0, Nat.zero_le _, rfl, by rw [htlH.out]; simpa using hown1, hbel⟩
      case round =>
        clear hown1 hbel hg1
        obtain ⟨k, hk, rfl, hown, hbel⟩ := hrel
        by_cases hlt : k < m
        · obtain ⟨x, n, cs, hx, hn, hc0, hsl, hcl, hone⟩ := hrH.out k hlt
          obtain ⟨b, off, rfl, hc, hbl, hbo⟩ := hv.cell k hx
          have hc2 : wr.cell? ⟨b, off + k, none⟩ = some x := by rw [World.cell?_of_block (a := ⟨b, off + k, none⟩) (hbel.block b hbl)]; exact hc
          obtain ⟨hs1, hs2⟩ := hsnH.out k n cs hn hc0
          rw [← htlH.out, ← htlH.out] at hs1
          have hb1 : tl (k + 1) ≤ 100000 := by rw [htlH.out]; exact htH.out (k + 1)
          have hsize := hbel.size
          obtain ⟨oa, oc, rfl⟩ := own_form hown
          have hcap : tl k ≤ oc ∧ oc ≤ maxLen := by
            rcases hown.2 with ⟨h1, h2⟩ | ⟨g, cap, cur, h1, _, _, h2, h3, _⟩
            · simp only [Value.slice.injEq] at h1; omega
            · simp only [Value.slice.injEq] at h1; omega
          by_cases hm0 : n = 0
          · subst hm0
            have hcs0 : cs = [] := List.eq_nil_of_length_eq_zero (by omega)
            subst hcs0
            obtain ⟨xa, xc, rfl⟩ := slc_form hsl
            rw [List.append_nil] at hs2
            rw [Nat.add_zero] at hs1
            have hap := run_append_none (P := Try.prog) wr 93 93 113 2 Try.underlying93 (by kernel_rfl) oa xa (tl k) oc xc hcap.1 (by omega)
            have hapH := hidden hap
            have hsH := hidden (And.intro hs1 hs2)
            have hownH := hidden hown
            clear hap hs1 hs2 hown hx hn hc0 hsl hv hrH hsnH hallH hb1 hcap hone hcl htH htlH
            go_wp2_with ((with_reducible apply lit_append); exact hapH.out; simp only [Act.put, List.setIfInBounds_toArray, List.set_cons_zero, List.set_cons_succ])
            go_roundw
            case rel => exact ⟨k + 1, hlt, by go_num, by rw [hsH.out.1, hsH.out.2]; exact hownH.out, hbel⟩
            case measure => simp [intOf]; omega
          · rcases hsl with ⟨_, h0, _⟩ | ⟨xb, xoff, xcap, rfl, hxl, hxm, hxo, hxb, hxr⟩
            · exact absurd h0 hm0
            · have hxr2 : wr.rangeAt xb xoff cs := range_same hxr (hbel.block xb hxb)
              obtain ⟨g, cap, w3, hrun, hown3, hgrow, hat, hlt3⟩ := run_append_row (P := Try.prog) wr 93 93 113 Try.underlying93 inf113 rfl (by omega) (base := w.heap.size) hsize _ (tl k) _ hown xb xoff n xcap cs hcl hxr2 hone (by omega) (by omega) (by omega)
              have hb3 : Below w.heap.size w w3 := hbel.grown hgrow hbel.size (fun k hk => (hown.lt k hk).1)
              rw [← hs1, ← hs2] at hown3
              rw [← hs1] at hrun
              have hrunH := hidden hrun
              have hownH := hidden hown3
              clear hrun hown3 hown hs1 hs2 hx hn hc0 hv hrH hsnH hallH hb1 hcap hone hcl hxr hxr2 hat htH htlH
              go_wp2_with ((with_reducible apply lit_append); exact hrunH.out; simp only [Act.put, List.setIfInBounds_toArray, List.set_cons_zero, List.set_cons_succ])
              go_roundw
              case rel => exact ⟨k + 1, hlt, by go_num, hownH.out, hb3⟩
              case measure => simp [intOf]; omega
        · obtain rfl : m = k := by omega
          have hEq : tl m = ns.sum := by rw [htlH.out, hallH.out.1]
          rw [hallH.out.2, hEq] at hown
          have hownH := hidden hown
          clear hEq hown
          obtain ⟨oa, oc, rfl⟩ := own_form hownH.out
          go_wp2_with fail
          go_ret
          exact ⟨_, ext w o, rfl, ⟨hbel.os, hbel.tape, hbel.output, hbel.size, fun k hk => if_pos hk, fun k hk _ => hbel.block k hk⟩, hownH.out, rfl⟩
end Go.Proofs.YtfgggkheadfiaaaR
/- Contracts: the store's Promise. -/
namespace Go.Proofs.YtfgggkheadfiaaaR
open Go Go.RowKit
attribute [local go_sem ↓] Go.wp_at_zero Go.wp_at_succ

def StoreM.promise (e : BitVec 64) (s : StoreM) : StoreM × Int :=
  if s.dead || s.d.dead then (s, 9) else if s.kept.promiseOk e then s.write (2 :: be 8 e) { s.kept with promised := e } else (s, 1)
def StoreM.adopt (e : BitVec 64) (ls : List LineM) (s : StoreM) : StoreM × Int :=
  if s.dead || s.d.dead then (s, 9) else if s.kept.adoptOk e ls then s.write (3 :: (be 8 e ++ encL ls)) ⟨e, e, ls⟩ else (s, 1)
def StoreM.append (ls : List LineM) (s : StoreM) : StoreM × Int :=
  if s.dead || s.d.dead then (s, 9) else if s.kept.appendOk ls then s.write (4 :: encL ls) { s.kept with lines := s.kept.lines ++ ls } else (s, 1)
theorem Wrote.same {w : World} {o : Own} {S A B D ps pd base nb : Nat} {s : StoreM} {v : Value} {e : Int} (h : StoreAt w o S A B D ps pd base s) (hv : v = .int .i64 e) (he : e ≠ 0) : Wrote S A B D ps pd base nb (s, e) v w o :=
  ⟨hv, by rw [if_neg he]; exact h⟩
theorem StoreAt.box {w : World} {o : Own} {S A B D ps pd base : Nat} {s : StoreM} (h : StoreAt w o S A B D ps pd base s) :
    ∃ kv, Lines w o base kv s.kept.lines ∧ w.rangeAt ps 6 [.int .u64 (s.kept.promised.toNat : Int), .int .u64 (s.kept.current.toNat : Int), kv] := by
  obtain ⟨X, Y, pa, pb, k, kv, -, hb, hl, -, -, -⟩ := h
  obtain ⟨-, -, -, -, -, -, hr⟩ := hb.cells
  exact ⟨kv, hl, hr⟩
theorem notIn4 {S A B D : Nat} : ∀ t, Only (S + A + B + D + 1) t → t ≠ 0 ∧ ¬ In4 S A B D t := fun t h => by
  change t = _ at h
  subst h
  exact ⟨by omega, fun h => by rcases h with h | h | h | h <;> omega⟩
theorem in4_0 {S A B D : Nat} (ht : Tags S A B D) : ¬ In4 S A B D 0 := fun h => by
  rcases h with h | h | h | h
  · exact ht.s0 h.symm
  · exact ht.a0 h.symm
  · exact ht.b0 h.symm
  · exact ht.d0 h.symm
set_option maxRecDepth 100000 in
set_option maxHeartbeats 3200000 in
theorem spromise_any {w : World} {o : Own} {S A B D ps pd base : Nat} {s : StoreM} (ht : Tags S A B D) (h : StoreAt w o S A B D ps pd base s) (hrow : s.d.row.length ≤ 600000) (hpg : 1 ≤ s.pages ∧ s.pages ≤ 4096) (hsm : small s.kept.lines) (e : BitVec 64) :
    Calls Try.prog 61 #[.pointer (some ⟨ps, 0, none⟩), .int .u64 (e.toNat : Int)] w (Ret (In4 S A B D) w o fun v w' o' => Wrote S A B D ps pd base w.heap.size (s.promise e) v w' o') := by
  have hmf : ∀ (fn : Fn) (first cap : Array Value) (w : World), (Instr.makeFunc fn first cap).run Try.prog w = .ok (.func fn first cap) w := fun _ _ _ _ => rfl
  have s1 := (Step.refl Nobody w o).alloc (.cells #[.pointer (some ⟨ps, 0, none⟩)] 90) (0, 0)
  have bs := Box.new w o 90 (.pointer (some ⟨ps, 0, none⟩))
  have z1 : (w.alloc (.cells #[.pointer (some ⟨ps, 0, none⟩)] 90)).heap.size = w.heap.size + 1 := by simp
  have s2 := (Step.refl Nobody (w.alloc (.cells #[.pointer (some ⟨ps, 0, none⟩)] 90)) (tagAt o w.heap.size (0, 0))).alloc (.cells #[.int .u64 (e.toNat : Int)] 36) (0, 0)
  have be_ := Box.new (w.alloc (.cells #[.pointer (some ⟨ps, 0, none⟩)] 90)) (tagAt o w.heap.size (0, 0)) 36 (.int .u64 (e.toNat : Int))
  rw [z1] at s2 be_
  replace bs := bs.step s2 (fun h => h)
  have st2 := s1.trans s2
  replace h := h.step0 st2
  have hsz2 : w.heap.size ≤ ((w.alloc (.cells #[.pointer (some ⟨ps, 0, none⟩)] 90)).alloc (.cells #[.int .u64 (e.toNat : Int)] 36)).heap.size := st2.size
  have hmay := may_any h 101 #[.pointer (some ⟨w.heap.size + 1, 0, none⟩), .pointer (some ⟨w.heap.size, 0, none⟩)] (s.kept.promiseOk e) Try.call101 (promise1_any h e _ _ be_ bs)
  obtain ⟨W2, hW2⟩ : ∃ W2, (w.alloc (.cells #[.pointer (some ⟨ps, 0, none⟩)] 90)).alloc (.cells #[.int .u64 (e.toNat : Int)] 36) = W2 := ⟨_, rfl⟩
  rw [hW2] at st2 h bs be_ hmay hsz2
  generalize tagAt (tagAt o w.heap.size (0, 0)) (w.heap.size + 1) (0, 0) = o2 at *
  obtain ⟨Q, hQ⟩ : ∃ Q, s.promise e = Q := ⟨_, rfl⟩
  have hQH := hidden hQ
  rw [hQ]
  unfold StoreM.promise at hQ
  have hW2H := hidden hW2
  have hH := hidden (And.intro h (And.intro bs (And.intro be_ st2)))
  have cs := bs.cell
  have ce := be_.cell
  have htH := hidden ht
  have hrowH := hidden (And.intro hrow (And.intro hpg hsm))
  have hmayH := hidden hmay
  have nI0 := hidden (in4_0 ht)
  clear h bs be_ st2 s1 s2 hW2 z1 ht hrow hpg hsm hmay hQH
  by_cases hd : (s.dead || s.d.dead) = true
  · rw [if_pos hd] at hQ hmayH
    have hF := hidden (show Wrote S A B D ps pd base w.heap.size Q (.int .i64 9) W2 o2 from by rw [← hQ]; exact Wrote.same hH.out.1 rfl (by omega))
    have hF2 := hidden (show ∀ w3 o3, Step Nobody W2 o2 w3 o3 → Wrote S A B D ps pd base w.heap.size Q (.int .i64 9) w3 o3 from fun w3 o3 st => by rw [← hQ]; exact Wrote.same (hH.out.1.step0 st) rfl (by omega))
    clear hQ
    go_enter Try.func61, Try.ntmps61
    go_wp2_with fail
    rw [hW2H.out]
    refine hmayH.out.mono ?_; rintro e1 w3 ⟨v3, o3, rfl, hs3, rfl⟩
    go_wp2_with fail
    go_ret
    exact ⟨_, o3, rfl, ((hH.out.2.2.2.trans hs3).mono (fun _ h => h.elim)), hF2.out w3 o3 hs3⟩
  · rw [if_neg hd] at hQ hmayH
    by_cases hok : s.kept.promiseOk e = true
    · rw [if_pos hok] at hQ
      rw [if_pos hok] at hmayH
      have hQH := hidden hQ
      clear hQ hd hok
      go_enter Try.func61, Try.ntmps61
      go_wp2_with fail
      rw [hW2H.out]
      refine hmayH.out.mono ?_; rintro e1 w3 ⟨v3, o3, rfl, hs3, rfl⟩
      have h3 := hH.out.1.step0 hs3
      have bs3 := hH.out.2.1.step hs3 (fun h => h)
      have be3 := hH.out.2.2.1.step hs3 (fun h => h)
      have st3 := hH.out.2.2.2.trans hs3
      obtain ⟨kv, hkl, hrg⟩ := h3.box
      have hld := hidden (load108at hrg)
      have hown := hidden (own_any (p := s.kept.promised) (c := s.kept.current) hkl (by have := hrowH.out.2.2.1; omega) (fun x hx => by have := small_mem hrowH.out.2.2 x hx; omega))
      have cs3 := bs3.cell
      clear cs ce hkl hrg hs3 hmayH
      go_wp2_with ((with_reducible apply lit_load); exact hld.out; simp only [Act.put, List.setIfInBounds_toArray, List.set_cons_zero, List.set_cons_succ])
      refine hown.out.mono ?_; rintro e1 w4 ⟨v4, o4, rfl, hs4, lv, rfl, hl4, rfl⟩
      have h4 := h3.step0 hs4
      have bs4 := bs3.step hs4 (fun h => h)
      have be4 := be3.step hs4 (fun h => h)
      have st4 := st3.trans hs4
      have hl4 := hl4.low st3.size
      obtain ⟨o4, ho4⟩ : ∃ o4, ext w3 o3 = o4 := ⟨_, rfl⟩
      rw [ho4] at hs4 hl4 h4 bs4 be4 st4
      obtain ⟨la, lc, rfl⟩ := hl4.form
      -- the copy
      obtain ⟨N, hN⟩ : ∃ N, N = S + A + B + D + 1 := ⟨_, rfl⟩
      have hal := hidden (run_alloc_zero (P := Try.prog) w4 108 _ zc108)
      have hsw := setCells_alloc_whole w4 #[.int .u64 0, .int .u64 0, .slice none 0 0] 108 [.int .u64 (s.kept.promised.toNat : Int), .int .u64 (s.kept.current.toNat : Int), .slice la s.kept.lines.length lc] rfl
      obtain ⟨hso, -⟩ := run_store_agg (P := Try.prog) (ty := 108) (vs := [.int .u64 (s.kept.promised.toNat : Int), .int .u64 (s.kept.current.toNat : Int), .slice la s.kept.lines.length lc]) (heap_alloc_new w4 (.cells [.int .u64 0, .int .u64 0, .slice none 0 0].toArray 108)) rfl (by kernel_rfl) rfl
      rw [hsw] at hso
      have hsoH := hidden hso
      have sN := (Step.refl Nobody w4 o4).alloc (.cells [.int .u64 (s.kept.promised.toNat : Int), .int .u64 (s.kept.current.toNat : Int), .slice la s.kept.lines.length lc].toArray 108) (N, 0)
      have bn := heap_alloc_new w4 (.cells [.int .u64 (s.kept.promised.toNat : Int), .int .u64 (s.kept.current.toNat : Int), .slice la s.kept.lines.length lc].toArray 108)
      have tn : tagAt o4 w4.heap.size (N, 0) w4.heap.size = (N, 0) := tagAt_same _ _ _
      obtain ⟨nb, hnb⟩ : ∃ nb, w4.heap.size = nb := ⟨_, rfl⟩
      have hnbw : w.heap.size ≤ nb := by rw [← hnb]; exact st4.size
      obtain ⟨w5, hw5⟩ : ∃ w5, w4.alloc (.cells [.int .u64 (s.kept.promised.toNat : Int), .int .u64 (s.kept.current.toNat : Int), .slice la s.kept.lines.length lc].toArray 108) = w5 := ⟨_, rfl⟩
      rw [hw5] at sN bn hsoH
      rw [hnb] at sN bn tn
      generalize tagAt o4 nb (N, 0) = o5 at *
      have h5 := h4.step0 sN
      have bs5 := bs4.step sN (fun h => h)
      have be5 := be4.step sN (fun h => h)
      have hl5 := hl4.step sN (fun h => h)
      have st5 := st4.trans sN
      have hnbH := hidden hnb
      have hw5H := hidden hw5
      have ce5 := be5.cell
      have c50 : w5.cell? ⟨nb, 0, none⟩ = some (.int .u64 (s.kept.promised.toNat : Int)) := cell_of_block bn 0
      have f50 := free_of_block bn 0
      have hset := (Step.refl (Only N) w5 o5).setCell (a := ⟨nb, 0, none⟩) (.int .u64 (e.toNat : Int)) (.inl (by show (o5 nb).1 = N; rw [tn]))
      have bn6 := heap_setCell_at (i := 0) (.int .u64 (e.toNat : Int)) bn
      simp only [List.set_cons_zero] at bn6
      have nN0 : ¬ Only N 0 := fun h => by change 0 = N at h; omega
      have h6 := h5.step hset (by rw [hN]; exact notIn4)
      have bs6 := bs5.step hset nN0
      have be6 := be5.step hset nN0
      have hl6 := hl5.step hset nN0
      have st6 := st5.setCell (a := ⟨nb, 0, none⟩) (.int .u64 (e.toNat : Int)) (.inr hnbw)
      obtain ⟨w6, hw6⟩ : ∃ w6, w5.setCell ⟨nb, 0, none⟩ (.int .u64 (e.toNat : Int)) = w6 := ⟨_, rfl⟩
      rw [hw6] at bn6 h6 bs6 be6 hl6 st6
      have hw6H := hidden hw6
      rw [← hnb] at c50 f50
      clear hnb hw5 hw6 hsw hso hset h5 bs5 be5 hl5 st5 h4 bs4 be4 hl4 st4 h3 bs3 be3 st3 hs4 ho4 hld hown sN cs3 bn
      go_wp2_with (first
        | ((with_reducible apply lit_alloc); exact hal.out; simp only [Act.put, List.setIfInBounds_toArray, List.set_cons_zero, List.set_cons_succ])
        | ((with_reducible apply lit_store); exact hsoH.out; simp only [Act.put]))
      rw [hnbH.out, hw6H.out]
      have hS6 := And.intro bs6.cell (And.intro be6.cell bn6)
      clear c50 f50 ce5 hal hsoH
      refine wp_region_need (fun w' => w'.cell? ⟨w.heap.size, 0, none⟩ = some (.pointer (some ⟨ps, 0, none⟩)) ∧ w'.cell? ⟨w.heap.size + 1, 0, none⟩ = some (.int .u64 (e.toNat : Int)) ∧ w'.heap[nb]? = some (.cells [.int .u64 (e.toNat : Int), .int .u64 (s.kept.current.toNat : Int), .slice la s.kept.lines.length lc].toArray 108 (0, 0))) (fun _ => true) (by kernel_rfl) hS6 (fun hHeld => ?_)
      refine wpAnyN_tk (i := 0) (v := ?_) rfl (by kernel_rfl) (fun _ _ _ h => h) (Or.inl ⟨by rfl, ?_⟩) (by assumption) ?_
      rotate_left
      · intro w hSw; ((try dsimp only at hSw); go_simp; (try with_reducible rfl))
      simp only [Act.put, List.setIfInBounds_toArray, List.set_cons_zero, List.set_cons_succ]
      refine wpAnyN_tk (i := 2) (v := ?_) rfl (by kernel_rfl) (fun _ _ _ h => h) (Or.inl ⟨by rfl, ?_⟩) (by assumption) ?_
      rotate_left
      · intro w hSw; ((try dsimp only at hSw); go_simp; (try with_reducible rfl))
      simp only [Act.put, List.setIfInBounds_toArray, List.set_cons_zero, List.set_cons_succ]
      refine wpAnyN_tk (i := 4) (v := .agg [.int .u64 (e.toNat : Int), .int .u64 (s.kept.current.toNat : Int), .slice la s.kept.lines.length lc].toArray) rfl (by kernel_rfl) (fun _ _ _ h => h) (yieldsIf_load_mid rfl 108 (.tmp 6) rfl nb 0 rfl [.int .u64 (e.toNat : Int), .int .u64 (s.kept.current.toNat : Int), .slice la s.kept.lines.length lc] _ (fun w h => range_whole h.2.2) Try.underlying108 rfl (by kernel_rfl)) (by assumption) ?_
      simp only [Act.put, List.setIfInBounds_toArray, List.set_cons_zero, List.set_cons_succ]
      refine wpAnyN_one (i := 1) rfl (by kernel_rfl) ?_
      go_wp2_with fail
      refine (wbyte_any (Bytes.nil _ o5) (by simp) 2).mono ?_; rintro e1 w7 ⟨v7, o7, rfl, hs7, hnb7⟩
      have hs7 : Step Nobody w6 o5 w7 o7 := (Step.refl Nobody w6 o5).drew.trans hs7
      have bn7 := (hs7.block nb (lt_of_block bn6) (fun h => h)).trans bn6
      have bs7 := bs6.step hs7 (fun h => h)
      have be7 := be6.step hs7 (fun h => h)
      have hS7 := And.intro bs7.cell (And.intro be7.cell bn7)
      clear hHeld
      go_wp2_with fail
      refine ⟨fun _ => hS7, ?_⟩
      refine wpAnyN_one (i := 3) rfl (by kernel_rfl) ?_
      go_wp2_with fail
      refine (wuint_any hnb7.bytes (by simp) e).mono ?_; rintro e1 w8 ⟨v8, o8, rfl, hs8, hnb8⟩
      have bn8 := (hs8.block nb (lt_of_block bn7) (fun h => h)).trans bn7
      have bs8 := bs7.step hs8 (fun h => h)
      have be8 := be7.step hs8 (fun h => h)
      have hS8 := And.intro bs8.cell (And.intro be8.cell bn8)
      have hs68 := hs7.trans hs8
      have hwr := hidden (swrite_any htH.out (h6.step0 hs68) hrowH.out.1 hrowH.out.2.1 v8 (2 :: be 8 e) (hnb8.congr (l' := 2 :: be 8 e) (by simp)).bytes hnb8.cap (by simp) (by simp [length_be]) { s.kept with promised := e } (.slice la s.kept.lines.length lc) (hl6.step hs68 (fun h => h)) hrowH.out.2.2)
      have st8 := hidden (st6.trans hs68)
      clear hS7 hs7 hs8 hnb7 bs7 be7 bn7
      go_wp2_with fail
      refine ⟨fun _ => hS8, ?_⟩
      refine wpAnyN_one (i := 5) rfl (by kernel_rfl) ?_
      go_wp2_with fail
      refine hwr.out.mono ?_; rintro e1 w9 ⟨v9, o9, rfl, hs9, hwd⟩
      have bn9 := (hs9.block nb (lt_of_block bn8) (by
        have e8 : o8 nb = (N, 0) := by rw [hs68.own nb (lt_of_block bn6)]; exact tn
        rw [e8]; exact (notIn4 N hN).2)).trans bn8
      have hS9 := And.intro (bs8.step hs9 nI0.out).cell (And.intro (be8.step hs9 nI0.out).cell bn9)
      rw [hQH.out] at hwd
      obtain ⟨rfl, hwd2⟩ := hwd
      have hwd := hidden (show Wrote S A B D ps pd base w.heap.size Q (.int .i64 Q.2) w9 o9 from ⟨rfl, hwd2⟩)
      have stF := hidden ((st8.out.mono (T' := In4 S A B D) (fun _ h => h.elim)).trans hs9)
      clear hs9 hwr hwd2 hS8 bs8 be8 bn8
      go_wp2_with fail
      refine ⟨fun _ => hS9, ?_⟩
      refine wpAnyN_tk (i := 6) (v := ?_) rfl (by kernel_rfl) (fun _ _ _ h => h) (Or.inl ⟨by rfl, ?_⟩) (by assumption) ?_
      rotate_left
      · intro w hSw; ((try dsimp only at hSw); go_simp; (try with_reducible rfl))
      simp only [Act.put, List.setIfInBounds_toArray, List.set_cons_zero, List.set_cons_succ]
      refine wpAnyN_done (by kernel_rfl) ?_ _
      clear hS9 bn9 hS6
      go_wp2_with fail
      go_ret
      exact ⟨_, o9, rfl, stF.out, hwd.out⟩
    · rw [if_neg hok] at hQ
      rw [if_neg hok] at hmayH
      have hF2 := hidden (show ∀ w3 o3, Step Nobody W2 o2 w3 o3 → Wrote S A B D ps pd base w.heap.size Q (.int .i64 1) w3 o3 from fun w3 o3 st => by rw [← hQ]; exact Wrote.same (hH.out.1.step0 st) rfl (by omega))
      clear hQ hd hok
      go_enter Try.func61, Try.ntmps61
      go_wp2_with fail
      rw [hW2H.out]
      refine hmayH.out.mono ?_; rintro e1 w3 ⟨v3, o3, rfl, hs3, rfl⟩
      go_wp2_with fail
      go_ret
      exact ⟨_, o3, rfl, ((hH.out.2.2.2.trans hs3).mono (fun _ h => h.elim)), hF2.out w3 o3 hs3⟩
end Go.Proofs.YtfgggkheadfiaaaR
/- Contracts: the store's Adopt and Append. -/
namespace Go.Proofs.YtfgggkheadfiaaaR
open Go Go.RowKit
attribute [local go_sem ↓] Go.wp_at_zero Go.wp_at_succ

theorem Lines.src {w : World} {o : Own} {base : Nat} {v : Value} {ls : List LineM} (h : Lines w o base v ls) : ∃ cs, Slc w o v ls.length cs ∧ cs.length = ls.length * 2 ∧ (∀ u ∈ cs, u.oneCell' = true) ∧ LnC w o cs ls := by
  obtain ⟨cs, h1, h2, -, -⟩ := h
  exact ⟨cs, h1, by rw [h2.1]; omega, h2.one, h2⟩
/-- slices.Concat of two rows of lines. -/
theorem concat2_any {w : World} {o : Own} {v : Value} {x1 x2 : Value} {b1 b2 : Nat} {l1 l2 : List LineM} (hv : Slc w o v 2 [x1, x2]) (h1 : Lines w o b1 x1 l1) (h2 : Lines w o b2 x2 l2) (hn : l1.length + l2.length ≤ 100000) :
    Calls Try.prog 112 #[v] w (Ret Nobody w o fun v' w' o' => Lines w' o' 0 v' (l1 ++ l2)) := by
  obtain ⟨c1, s1, k1, q1, e1⟩ := h1.src
  obtain ⟨c2, s2, k2, q2, e2⟩ := h2.src
  refine (concatL_any (vs := [x1, x2]) (ns := [l1.length, l2.length]) (css := [c1, c2]) hv ?_ rfl rfl ?_ (by simp)).mono ?_
  · intro k hk
    match k, hk with
    | 0, _ => exact ⟨x1, _, c1, rfl, rfl, rfl, s1, k1, q1⟩
    | 1, _ => exact ⟨x2, _, c2, rfl, rfl, rfl, s2, k2, q2⟩
  · intro k
    match k with
    | 0 => simp
    | 1 => simp; omega
    | k + 2 => simp; omega
  · rintro e w' ⟨v', o', rfl, hs, hown, rfl⟩
    refine ⟨v', _, rfl, hs, c1 ++ c2, ?_, (e1.append e2).step hs (fun h => h), Fresh.zero _, fun u _ => Fresh.zero u⟩
    simp only [List.sum_cons, List.sum_nil, Nat.add_zero, List.flatten_cons, List.flatten_nil, List.append_nil] at hown
    rw [List.length_append]
    rcases hown.2 with ⟨rfl, h0⟩ | ⟨g, cap, cur, rfl, q1, q2, q3, q4, q5, q6⟩
    · refine .inl ⟨⟨none, 0, rfl⟩, h0, ?_⟩
      apply List.eq_nil_of_length_eq_zero
      rw [hown.1, h0]
    · refine .inr ⟨g, 0, cap, rfl, q3, q4, by unfold ext; rw [if_neg (by omega)], lt_of_block q2, ?_⟩
      have := range_of_block (w := w') (b := g) (cs := cur.toList) (E := 113) (fr := (0, 0)) (by simpa using q2) 0 ((l1.length + l2.length) * 2)
      rw [List.drop_zero, q6] at this
      exact this
theorem slc_two (w : World) (o : Own) (x1 x2 : Value) (t : TypeId) : Slc (w.alloc (.cells #[x1, x2] t)) (tagAt o w.heap.size (0, 0)) (.slice (some ⟨w.heap.size, 0, none⟩) 2 2) 2 [x1, x2] :=
  .inr ⟨w.heap.size, 0, 2, rfl, by omega, by simp [maxLen], by rw [tagAt_same], by simp, range_whole (heap_alloc_new w _)⟩
set_option maxRecDepth 100000 in
set_option maxHeartbeats 3200000 in
theorem sadopt_any {w : World} {o : Own} {S A B D ps pd base lbase : Nat} {s : StoreM} (ht : Tags S A B D) (h : StoreAt w o S A B D ps pd base s) (hrow : s.d.row.length ≤ 600000) (hpg : 1 ≤ s.pages ∧ s.pages ≤ 4096) (e : BitVec 64) (lv : Value) (ls : List LineM) (hl : Lines w o lbase lv ls) (hn1 : ls.length ≤ 1000) (hsm : s.kept.adoptOk e ls = true → small ls) :
    Calls Try.prog 62 #[.pointer (some ⟨ps, 0, none⟩), .int .u64 (e.toNat : Int), lv] w (Ret (In4 S A B D) w o fun v w' o' => Wrote S A B D ps pd base w.heap.size (s.adopt e ls) v w' o') := by
  have hmf : ∀ (fn : Fn) (first cap : Array Value) (w : World), (Instr.makeFunc fn first cap).run Try.prog w = .ok (.func fn first cap) w := fun _ _ _ _ => rfl
  obtain ⟨la, lc, rfl⟩ := hl.form
  have s1 := (Step.refl Nobody w o).alloc (.cells #[.pointer (some ⟨ps, 0, none⟩)] 90) (0, 0)
  have bs := Box.new w o 90 (.pointer (some ⟨ps, 0, none⟩))
  have z1 : (w.alloc (.cells #[.pointer (some ⟨ps, 0, none⟩)] 90)).heap.size = w.heap.size + 1 := by simp
  have s2 := (Step.refl Nobody (w.alloc (.cells #[.pointer (some ⟨ps, 0, none⟩)] 90)) (tagAt o w.heap.size (0, 0))).alloc (.cells #[.int .u64 (e.toNat : Int)] 36) (0, 0)
  have be_ := Box.new (w.alloc (.cells #[.pointer (some ⟨ps, 0, none⟩)] 90)) (tagAt o w.heap.size (0, 0)) 36 (.int .u64 (e.toNat : Int))
  have z2 : ((w.alloc (.cells #[.pointer (some ⟨ps, 0, none⟩)] 90)).alloc (.cells #[.int .u64 (e.toNat : Int)] 36)).heap.size = w.heap.size + 1 + 1 := by simp
  rw [z1] at s2 be_
  have s3 := (Step.refl Nobody ((w.alloc (.cells #[.pointer (some ⟨ps, 0, none⟩)] 90)).alloc (.cells #[.int .u64 (e.toNat : Int)] 36)) (tagAt (tagAt o w.heap.size (0, 0)) (w.heap.size + 1) (0, 0))).alloc (.cells #[.slice la ls.length lc] 93) (0, 0)
  have bl := Box.new ((w.alloc (.cells #[.pointer (some ⟨ps, 0, none⟩)] 90)).alloc (.cells #[.int .u64 (e.toNat : Int)] 36)) (tagAt (tagAt o w.heap.size (0, 0)) (w.heap.size + 1) (0, 0)) 93 (.slice la ls.length lc)
  rw [z2] at s3 bl
  replace bs := (bs.step s2 (fun h => h)).step s3 (fun h => h)
  replace be_ := be_.step s3 (fun h => h)
  have st2 := (s1.trans s2).trans s3
  replace h := h.step0 st2
  replace hl := hl.step st2 (fun h => h)
  have hmay := may_any h 106 #[.pointer (some ⟨w.heap.size + 1, 0, none⟩), .pointer (some ⟨w.heap.size, 0, none⟩), .pointer (some ⟨w.heap.size + 1 + 1, 0, none⟩)] (s.kept.adoptOk e ls) Try.call106 (adopt1_any h e _ _ _ _ _ ls be_ bs bl hl (by omega))
  obtain ⟨W2, hW2⟩ : ∃ W2, ((w.alloc (.cells #[.pointer (some ⟨ps, 0, none⟩)] 90)).alloc (.cells #[.int .u64 (e.toNat : Int)] 36)).alloc (.cells #[.slice la ls.length lc] 93) = W2 := ⟨_, rfl⟩
  rw [hW2] at st2 h bs be_ bl hmay hl
  generalize tagAt (tagAt (tagAt o w.heap.size (0, 0)) (w.heap.size + 1) (0, 0)) (w.heap.size + 1 + 1) (0, 0) = o2 at *
  obtain ⟨Q, hQ⟩ : ∃ Q, s.adopt e ls = Q := ⟨_, rfl⟩
  rw [hQ]
  unfold StoreM.adopt at hQ
  have hW2H := hidden hW2
  have hH := hidden (And.intro h (And.intro bs (And.intro be_ bl)))
  have hst2 := hidden st2
  have cs := bs.cell
  have hlH := hidden hl
  have htH := hidden ht
  have hrowH := hidden (And.intro hrow (And.intro hpg hsm))
  have hmayH := hidden hmay
  have nI0 := hidden (in4_0 ht)
  clear h bs be_ bl st2 s1 s2 s3 hW2 z1 z2 ht hrow hpg hsm hmay hl
  by_cases hd : (s.dead || s.d.dead) = true
  · rw [if_pos hd] at hQ hmayH
    have hF2 := hidden (show ∀ w3 o3, Step Nobody W2 o2 w3 o3 → Wrote S A B D ps pd base w.heap.size Q (.int .i64 9) w3 o3 from fun w3 o3 st => by rw [← hQ]; exact Wrote.same (hH.out.1.step0 st) rfl (by omega))
    clear hQ
    go_enter Try.func62, Try.ntmps62
    go_wp2_with fail
    rw [hW2H.out]
    refine hmayH.out.mono ?_; rintro e1 w3 ⟨v3, o3, rfl, hs3, rfl⟩
    go_wp2_with fail
    go_ret
    exact ⟨_, o3, rfl, ((hst2.out.trans hs3).mono (fun _ h => h.elim)), hF2.out w3 o3 hs3⟩
  · rw [if_neg hd] at hQ hmayH
    by_cases hok : s.kept.adoptOk e ls = true
    · rw [if_pos hok] at hQ
      rw [if_pos hok] at hmayH
      have hrowH := hidden (And.intro hrowH.out.1 (And.intro hrowH.out.2.1 (hrowH.out.2.2 hok)))
      have hQH := hidden hQ
      clear hQ hd hok
      go_enter Try.func62, Try.ntmps62
      go_wp2_with fail
      rw [hW2H.out]
      refine hmayH.out.mono ?_; rintro e1 w3 ⟨v3, o3, rfl, hs3, rfl⟩
      have h3 := hH.out.1.step0 hs3
      have bs3 := hH.out.2.1.step hs3 (fun h => h)
      have be3 := hH.out.2.2.1.step hs3 (fun h => h)
      have bl3 := hH.out.2.2.2.step hs3 (fun h => h)
      have hl3 := hlH.out.step hs3 (fun h => h)
      have st3 := hst2.out.trans hs3
      have hS := And.intro bs3.cell (And.intro be3.cell bl3.cell)
      clear cs hs3 hmayH
      go_wp2_with fail
      refine wp_region_need (fun w' => w'.cell? ⟨w.heap.size, 0, none⟩ = some (.pointer (some ⟨ps, 0, none⟩)) ∧ w'.cell? ⟨w.heap.size + 1, 0, none⟩ = some (.int .u64 (e.toNat : Int)) ∧ w'.cell? ⟨w.heap.size + 1 + 1, 0, none⟩ = some (.slice la ls.length lc)) (fun _ => true) (by kernel_rfl) hS (fun hHeld => ?_)
      refine wpAnyN_tk (i := 0) (v := ?_) rfl (by kernel_rfl) (fun _ _ _ h => h) (Or.inl ⟨by rfl, ?_⟩) (by assumption) ?_
      rotate_left
      · intro w hSw; ((try dsimp only at hSw); go_simp; (try with_reducible rfl))
      simp only [Act.put, List.setIfInBounds_toArray, List.set_cons_zero, List.set_cons_succ]
      refine wpAnyN_tk (i := 2) (v := ?_) rfl (by kernel_rfl) (fun _ _ _ h => h) (Or.inl ⟨by rfl, ?_⟩) (by assumption) ?_
      rotate_left
      · intro w hSw; ((try dsimp only at hSw); go_simp; (try with_reducible rfl))
      simp only [Act.put, List.setIfInBounds_toArray, List.set_cons_zero, List.set_cons_succ]
      refine wpAnyN_tk (i := 4) (v := ?_) rfl (by kernel_rfl) (fun _ _ _ h => h) (Or.inl ⟨by rfl, ?_⟩) (by assumption) ?_
      rotate_left
      · intro w hSw; ((try dsimp only at hSw); go_simp; (try with_reducible rfl))
      simp only [Act.put, List.setIfInBounds_toArray, List.set_cons_zero, List.set_cons_succ]
      refine wpAnyN_tk (i := 6) (v := ?_) rfl (by kernel_rfl) (fun _ _ _ h => h) (Or.inl ⟨by rfl, ?_⟩) (by assumption) ?_
      rotate_left
      · intro w hSw; ((try dsimp only at hSw); go_simp; (try with_reducible rfl))
      simp only [Act.put, List.setIfInBounds_toArray, List.set_cons_zero, List.set_cons_succ]
      refine wpAnyN_tk (i := 7) (v := ?_) rfl (by kernel_rfl) (fun _ _ _ h => h) (Or.inl ⟨by rfl, ?_⟩) (by assumption) ?_
      rotate_left
      · intro w hSw; ((try dsimp only at hSw); go_simp; (try with_reducible rfl))
      simp only [Act.put, List.setIfInBounds_toArray, List.set_cons_zero, List.set_cons_succ]
      refine wpAnyN_tk (i := 8) (v := ?_) rfl (by kernel_rfl) (fun _ _ _ h => h) (Or.inl ⟨by rfl, ?_⟩) (by assumption) ?_
      rotate_left
      · intro w hSw; ((try dsimp only at hSw); go_simp; (try with_reducible rfl))
      simp only [Act.put, List.setIfInBounds_toArray, List.set_cons_zero, List.set_cons_succ]
      refine wpAnyN_tk (i := 9) (v := ?_) rfl (by kernel_rfl) (fun _ _ _ h => h) (Or.inl ⟨by rfl, ?_⟩) (by assumption) ?_
      rotate_left
      · intro w hSw; ((try dsimp only at hSw); go_simp; (try with_reducible rfl))
      simp only [Act.put, List.setIfInBounds_toArray, List.set_cons_zero, List.set_cons_succ]
      refine wpAnyN_one (i := 1) rfl (by kernel_rfl) ?_
      go_wp2_with fail
      refine (wbyte_any (Bytes.nil _ o3) (by simp) 3).mono ?_; rintro e1 w4 ⟨v4, o4, rfl, hs4, hnb4⟩
      have hs4 : Step Nobody w3 o3 w4 o4 := (Step.refl Nobody w3 o3).drew.trans hs4
      have bs4 := bs3.step hs4 (fun h => h)
      have be4 := be3.step hs4 (fun h => h)
      have bl4 := bl3.step hs4 (fun h => h)
      have hS4 := And.intro bs4.cell (And.intro be4.cell bl4.cell)
      clear hHeld
      go_wp2_with fail
      refine ⟨fun _ => hS4, ?_⟩
      refine wpAnyN_one (i := 3) rfl (by kernel_rfl) ?_
      go_wp2_with fail
      refine (wuint_any hnb4.bytes (by simp) e).mono ?_; rintro e1 w5 ⟨v5, o5, rfl, hs5, hnb5⟩
      have bs5 := bs4.step hs5 (fun h => h)
      have be5 := be4.step hs5 (fun h => h)
      have bl5 := bl4.step hs5 (fun h => h)
      have hS5 := And.intro bs5.cell (And.intro be5.cell bl5.cell)
      clear hS4
      go_wp2_with fail
      refine ⟨fun _ => hS5, ?_⟩
      refine wpAnyN_one (i := 5) rfl (by kernel_rfl) ?_
      go_wp2_with fail
      have st35 := hs4.trans hs5
      refine (slines_any hnb5.bytes (hl3.step st35 (fun h => h)) (by simp [length_be]; have := hrowH.out.2.2.2; omega) (by have := hrowH.out.2.2.1; omega)).mono ?_; rintro e1 w6 ⟨v6, o6, rfl, hs6, hnb6⟩
      have bs6 := bs5.step hs6 (fun h => h)
      have be6 := be5.step hs6 (fun h => h)
      have bl6 := bl5.step hs6 (fun h => h)
      have hS6 := And.intro bs6.cell (And.intro be6.cell bl6.cell)
      have st36 := st35.trans hs6
      have hl6 := hl3.step st36 (fun h => h)
      have hown := hidden (own_any (p := e) (c := e) hl6 (by have := hrowH.out.2.2.1; omega) (fun x hx => by have := small_mem hrowH.out.2.2 x hx; omega))
      unfold keptV at hown
      clear hS5
      go_wp2_with fail
      refine ⟨fun _ => hS6, ?_⟩
      refine wpAnyN_one (i := 10) rfl (by kernel_rfl) ?_
      go_wp2_with fail
      refine hown.out.mono ?_; rintro e1 w7 ⟨v7, o7, rfl, hs7, lv7, rfl, hl7, rfl⟩
      obtain ⟨o7, ho7⟩ : ∃ o7, ext w6 o6 = o7 := ⟨_, rfl⟩
      rw [ho7] at hs7 hl7
      have bs7 := bs6.step hs7 (fun h => h)
      have be7 := be6.step hs7 (fun h => h)
      have bl7 := bl6.step hs7 (fun h => h)
      have hS7 := And.intro bs7.cell (And.intro be7.cell bl7.cell)
      have st37 := st36.trans hs7
      have hsz6 : w.heap.size ≤ w6.heap.size := (st3.trans st36).size
      have hwr := hidden (swrite_any htH.out (h3.step0 st37) hrowH.out.1 hrowH.out.2.1 v6 (3 :: (be 8 e ++ encL ls)) ((hnb6.congr (l' := 3 :: (be 8 e ++ encL ls)) (by simp)).step hs7 (fun h => h)).bytes hnb6.cap (by simp) (by simp [encL, length_be]; have := hrowH.out.2.2.2; omega) ⟨e, e, ls⟩ lv7 (hl7.low hsz6) hrowH.out.2.2)
      unfold keptV at hwr
      have stH := hidden (st3.trans st37)
      clear hS6 hown ho7
      go_wp2_with fail
      refine ⟨fun _ => hS7, ?_⟩
      refine wpAnyN_one (i := 11) rfl (by kernel_rfl) ?_
      go_wp2_with fail
      refine hwr.out.mono ?_; rintro e1 w9 ⟨v9, o9, rfl, hs9, hwd⟩
      have hS9 := And.intro (bs7.step hs9 nI0.out).cell (And.intro (be7.step hs9 nI0.out).cell (bl7.step hs9 nI0.out).cell)
      rw [hQH.out] at hwd
      obtain ⟨rfl, hwd2⟩ := hwd
      have hwd := hidden (show Wrote S A B D ps pd base w.heap.size Q (.int .i64 Q.2) w9 o9 from ⟨rfl, hwd2⟩)
      have stF := hidden ((stH.out.mono (T' := In4 S A B D) (fun _ h => h.elim)).trans hs9)
      clear hs9 hwr hwd2 hS7
      go_wp2_with fail
      refine ⟨fun _ => hS9, ?_⟩
      refine wpAnyN_tk (i := 12) (v := ?_) rfl (by kernel_rfl) (fun _ _ _ h => h) (Or.inl ⟨by rfl, ?_⟩) (by assumption) ?_
      rotate_left
      · intro w hSw; ((try dsimp only at hSw); go_simp; (try with_reducible rfl))
      simp only [Act.put, List.setIfInBounds_toArray, List.set_cons_zero, List.set_cons_succ]
      refine wpAnyN_done (by kernel_rfl) ?_ _
      clear hS9 hS
      go_wp2_with fail
      go_ret
      exact ⟨_, o9, rfl, stF.out, hwd.out⟩
    · rw [if_neg hok] at hQ
      rw [if_neg hok] at hmayH
      clear hd hok
      have hF2 := hidden (show ∀ w3 o3, Step Nobody W2 o2 w3 o3 → Wrote S A B D ps pd base w.heap.size Q (.int .i64 1) w3 o3 from fun w3 o3 st => by rw [← hQ]; exact Wrote.same (hH.out.1.step0 st) rfl (by omega))
      clear hQ
      go_enter Try.func62, Try.ntmps62
      go_wp2_with fail
      rw [hW2H.out]
      refine hmayH.out.mono ?_; rintro e1 w3 ⟨v3, o3, rfl, hs3, rfl⟩
      go_wp2_with fail
      go_ret
      exact ⟨_, o3, rfl, ((hst2.out.trans hs3).mono (fun _ h => h.elim)), hF2.out w3 o3 hs3⟩
set_option maxRecDepth 100000 in
set_option maxHeartbeats 3200000 in
theorem sappend_any {w : World} {o : Own} {S A B D ps pd base lbase : Nat} {s : StoreM} (ht : Tags S A B D) (h : StoreAt w o S A B D ps pd base s) (hrow : s.d.row.length ≤ 600000) (hpg : 1 ≤ s.pages ∧ s.pages ≤ 4096) (lv : Value) (ls : List LineM) (hl : Lines w o lbase lv ls) (hn1 : ls.length ≤ 1000) (hk1 : s.kept.lines.length ≤ 1000) (hsm : s.kept.appendOk ls = true → small ls ∧ small s.kept.lines ∧ small (s.kept.lines ++ ls)) :
    Calls Try.prog 65 #[.pointer (some ⟨ps, 0, none⟩), lv] w (Ret (In4 S A B D) w o fun v w' o' => Wrote S A B D ps pd base w.heap.size (s.append ls) v w' o') := by
  have hmf : ∀ (fn : Fn) (first cap : Array Value) (w : World), (Instr.makeFunc fn first cap).run Try.prog w = .ok (.func fn first cap) w := fun _ _ _ _ => rfl
  obtain ⟨la, lc, rfl⟩ := hl.form
  have s1 := (Step.refl Nobody w o).alloc (.cells #[.pointer (some ⟨ps, 0, none⟩)] 90) (0, 0)
  have bs := Box.new w o 90 (.pointer (some ⟨ps, 0, none⟩))
  have z1 : (w.alloc (.cells #[.pointer (some ⟨ps, 0, none⟩)] 90)).heap.size = w.heap.size + 1 := by simp
  have s2 := (Step.refl Nobody (w.alloc (.cells #[.pointer (some ⟨ps, 0, none⟩)] 90)) (tagAt o w.heap.size (0, 0))).alloc (.cells #[.slice la ls.length lc] 93) (0, 0)
  have bl := Box.new (w.alloc (.cells #[.pointer (some ⟨ps, 0, none⟩)] 90)) (tagAt o w.heap.size (0, 0)) 93 (.slice la ls.length lc)
  rw [z1] at s2 bl
  replace bs := bs.step s2 (fun h => h)
  have st2 := s1.trans s2
  replace h := h.step0 st2
  replace hl := hl.step st2 (fun h => h)
  have hmay := may_any h 109 #[.pointer (some ⟨w.heap.size, 0, none⟩), .pointer (some ⟨w.heap.size + 1, 0, none⟩)] (s.kept.appendOk ls) Try.call109 (append1_any h _ _ _ _ ls bs bl hl (by omega) hk1)
  obtain ⟨W2, hW2⟩ : ∃ W2, (w.alloc (.cells #[.pointer (some ⟨ps, 0, none⟩)] 90)).alloc (.cells #[.slice la ls.length lc] 93) = W2 := ⟨_, rfl⟩
  rw [hW2] at st2 h bs bl hmay hl
  generalize tagAt (tagAt o w.heap.size (0, 0)) (w.heap.size + 1) (0, 0) = o2 at *
  obtain ⟨Q, hQ⟩ : ∃ Q, s.append ls = Q := ⟨_, rfl⟩
  rw [hQ]
  unfold StoreM.append at hQ
  have hW2H := hidden hW2
  have hH := hidden (And.intro h (And.intro bs bl))
  have hst2 := hidden st2
  have cs := bs.cell
  have hlH := hidden hl
  have htH := hidden ht
  have hrowH := hidden (And.intro hrow (And.intro hpg hsm))
  have hmayH := hidden hmay
  have nI0 := hidden (in4_0 ht)
  clear h bs bl st2 s1 s2 hW2 z1 ht hrow hpg hsm hmay hl
  by_cases hd : (s.dead || s.d.dead) = true
  · rw [if_pos hd] at hQ hmayH
    have hF2 := hidden (show ∀ w3 o3, Step Nobody W2 o2 w3 o3 → Wrote S A B D ps pd base w.heap.size Q (.int .i64 9) w3 o3 from fun w3 o3 st => by rw [← hQ]; exact Wrote.same (hH.out.1.step0 st) rfl (by omega))
    clear hQ
    go_enter Try.func65, Try.ntmps65
    go_wp2_with fail
    rw [hW2H.out]
    refine hmayH.out.mono ?_; rintro e1 w3 ⟨v3, o3, rfl, hs3, rfl⟩
    go_wp2_with fail
    go_ret
    exact ⟨_, o3, rfl, ((hst2.out.trans hs3).mono (fun _ h => h.elim)), hF2.out w3 o3 hs3⟩
  · rw [if_neg hd] at hQ hmayH
    by_cases hok : s.kept.appendOk ls = true
    · rw [if_pos hok] at hQ
      rw [if_pos hok] at hmayH
      have hrowH := hidden (And.intro hrowH.out.1 (And.intro hrowH.out.2.1 (hrowH.out.2.2 hok)))
      have hQH := hidden hQ
      clear hQ hd hok
      go_enter Try.func65, Try.ntmps65
      go_wp2_with fail
      rw [hW2H.out]
      refine hmayH.out.mono ?_; rintro e1 w3 ⟨v3, o3, rfl, hs3, rfl⟩
      have h3 := hH.out.1.step0 hs3
      have bs3 := hH.out.2.1.step hs3 (fun h => h)
      have bl3 := hH.out.2.2.step hs3 (fun h => h)
      have hl3 := hlH.out.step hs3 (fun h => h)
      have st3 := hst2.out.trans hs3
      obtain ⟨kv, hkl, hrg⟩ := h3.box
      obtain ⟨ka, kc, rfl⟩ := hkl.form
      have hld := hidden (load108 hrg)
      have cs3 := bs3.cell
      obtain ⟨N, hN⟩ : ∃ N, N = S + A + B + D + 1 := ⟨_, rfl⟩
      have hal := hidden (run_alloc_zero (P := Try.prog) w3 108 _ zc108)
      have hsw := setCells_alloc_whole w3 #[.int .u64 0, .int .u64 0, .slice none 0 0] 108 [.int .u64 (s.kept.promised.toNat : Int), .int .u64 (s.kept.current.toNat : Int), .slice ka s.kept.lines.length kc] rfl
      obtain ⟨hso, -⟩ := run_store_agg (P := Try.prog) (ty := 108) (vs := [.int .u64 (s.kept.promised.toNat : Int), .int .u64 (s.kept.current.toNat : Int), .slice ka s.kept.lines.length kc]) (heap_alloc_new w3 (.cells [.int .u64 0, .int .u64 0, .slice none 0 0].toArray 108)) rfl (by kernel_rfl) rfl
      rw [hsw] at hso
      have hsoH := hidden hso
      have sN := (Step.refl Nobody w3 o3).alloc (.cells [.int .u64 (s.kept.promised.toNat : Int), .int .u64 (s.kept.current.toNat : Int), .slice ka s.kept.lines.length kc].toArray 108) (N, 0)
      have bn := heap_alloc_new w3 (.cells [.int .u64 (s.kept.promised.toNat : Int), .int .u64 (s.kept.current.toNat : Int), .slice ka s.kept.lines.length kc].toArray 108)
      have tn : tagAt o3 w3.heap.size (N, 0) w3.heap.size = (N, 0) := tagAt_same _ _ _
      have hnbw : w.heap.size ≤ w3.heap.size := st3.size
      obtain ⟨w5, hw5⟩ : ∃ w5, w3.alloc (.cells [.int .u64 (s.kept.promised.toNat : Int), .int .u64 (s.kept.current.toNat : Int), .slice ka s.kept.lines.length kc].toArray 108) = w5 := ⟨_, rfl⟩
      rw [hw5] at sN bn hsoH
      generalize tagAt o3 w3.heap.size (N, 0) = o5 at *
      have h5 := h3.step0 sN
      have bs5 := bs3.step sN (fun h => h)
      have bl5 := bl3.step sN (fun h => h)
      have hl5 := hl3.step sN (fun h => h)
      have hkl5 := hkl.step sN (fun h => h)
      have st5 := st3.trans sN
      have c52 : w5.cell? ⟨w3.heap.size, 2, none⟩ = some (.slice ka s.kept.lines.length kc) := cell_of_block bn 2
      have cl5 := bl5.cell
      -- the row of two
      have sR := (Step.refl Nobody w5 o5).alloc (.cells #[.slice ka s.kept.lines.length kc, .slice la ls.length lc] 93) (0, 0)
      have slR := slc_two w5 o5 (.slice ka s.kept.lines.length kc) (.slice la ls.length lc) 93
      have hcc := hidden (concat2_any slR (hkl5.step sR (fun h => h)) (hl5.step sR (fun h => h)) (by have := hrowH.out.2.2.2.2.1; rw [List.length_append] at this; omega))
      have bn6 := (sR.block w3.heap.size (lt_of_block bn) (fun h => h)).trans bn
      have tn6 := (sR.own w3.heap.size (lt_of_block bn)).trans tn
      have h6 := h5.step0 sR
      have bs6 := bs5.step sR (fun h => h)
      have bl6 := bl5.step sR (fun h => h)
      have hl6 := hl5.step sR (fun h => h)
      have st6 := st5.trans sR
      clear hrg hkl hsw hso hw5 sN bn tn h5 bs5 bl5 hl5 hkl5 st5 sR slR h3 bs3 bl3 hl3 hmayH cs
      generalize hgR : tagAt o5 w5.heap.size (0, 0) = o6 at *
      clear hgR
      go_wp2_with (first
        | ((with_reducible apply lit_load); exact hld.out; simp only [Act.put, List.setIfInBounds_toArray, List.set_cons_zero, List.set_cons_succ])
        | ((with_reducible apply lit_alloc); exact hal.out; simp only [Act.put, List.setIfInBounds_toArray, List.set_cons_zero, List.set_cons_succ])
        | ((with_reducible apply lit_store); exact hsoH.out; simp only [Act.put]))
      refine hcc.out.mono ?_; rintro e1 w7 ⟨v7, o7, rfl, hs7, hl7⟩
      obtain ⟨nb, hnb⟩ : ∃ nb, w3.heap.size = nb := ⟨_, rfl⟩
      have bn7 := (hs7.block _ (lt_of_block bn6) (fun h => h)).trans bn6
      have tn7 := (hs7.own _ (lt_of_block bn6)).trans tn6
      rw [hnb] at bn7 tn7
      have h7 := h6.step0 hs7
      have bs7 := bs6.step hs7 (fun h => h)
      have bl7 := bl6.step hs7 (fun h => h)
      have hl7s := hl6.step hs7 (fun h => h)
      have st7 := st6.trans hs7
      have hset := (Step.refl (Only N) w7 o7).setCell (a := ⟨nb, 2, none⟩) v7 (.inl (by show (o7 nb).1 = N; rw [tn7]))
      have bn8 := heap_setCell_at (i := 2) v7 bn7
      simp only [List.set_cons_zero, List.set_cons_succ] at bn8
      have nN0 : ¬ Only N 0 := fun h => by change 0 = N at h; omega
      have h8 := h7.step hset (by rw [hN]; exact notIn4)
      have bs8 := bs7.step hset nN0
      have bl8 := bl7.step hset nN0
      have hl8 := hl7s.step hset nN0
      have hlv8 := hl7.step hset nN0
      have st8 := st7.setCell (a := ⟨nb, 2, none⟩) v7 (.inr (by rw [← hnb]; exact hnbw))
      have c72 : w7.cell? ⟨nb, 2, none⟩ = some (.slice ka s.kept.lines.length kc) := cell_of_block bn7 2
      have f72 := free_of_block bn7 2
      obtain ⟨w8, hw8⟩ : ∃ w8, w7.setCell ⟨nb, 2, none⟩ v7 = w8 := ⟨_, rfl⟩
      rw [hw8] at bn8 h8 bs8 bl8 hl8 hlv8 st8
      have hnbH := hidden hnb
      have hw8H := hidden hw8
      rw [hnbH.out]
      obtain ⟨va, vc, rfl⟩ := hlv8.form
      have hown := hidden (fun (W : World) (O : Own) (st : Step Nobody w8 o7 W O) => own_any (p := s.kept.promised) (c := s.kept.current) (hlv8.step st (fun h => h)) (by have := hrowH.out.2.2.2.2.1; omega) (fun x hx => by have := small_mem hrowH.out.2.2.2.2 x hx; omega))
      unfold keptV at hown
      obtain ⟨LL, hLL⟩ : ∃ LL, (s.kept.lines ++ ls).length = LL := ⟨_, rfl⟩
      rw [hLL] at hown bn8 hw8H
      clear hnb hw8 hset h7 bs7 bl7 hl7s st7 h6 bs6 bl6 hl6 st6 hs7 hl7 bn6 tn6 c52 cl5 hcc hld hal hsoH cs3 bn7 hs3 st3 hlv8
      rw [hLL]
      have hS8 := And.intro bs8.cell (And.intro bl8.cell bn8)
      go_wp2_with fail
      rw [hw8H.out]
      refine wp_region_need (fun w' => w'.cell? ⟨w.heap.size, 0, none⟩ = some (.pointer (some ⟨ps, 0, none⟩)) ∧ w'.cell? ⟨w.heap.size + 1, 0, none⟩ = some (.slice la ls.length lc) ∧ w'.heap[nb]? = some (.cells [.int .u64 (s.kept.promised.toNat : Int), .int .u64 (s.kept.current.toNat : Int), .slice va LL vc].toArray 108 (0, 0))) (fun _ => true) (by kernel_rfl) hS8 (fun hHeld => ?_)
      refine wpAnyN_tk (i := 0) (v := ?_) rfl (by kernel_rfl) (fun _ _ _ h => h) (Or.inl ⟨by rfl, ?_⟩) (by assumption) ?_
      rotate_left
      · intro w hSw; ((try dsimp only at hSw); go_simp; (try with_reducible rfl))
      simp only [Act.put, List.setIfInBounds_toArray, List.set_cons_zero, List.set_cons_succ]
      refine wpAnyN_tk (i := 2) (v := ?_) rfl (by kernel_rfl) (fun _ _ _ h => h) (Or.inl ⟨by rfl, ?_⟩) (by assumption) ?_
      rotate_left
      · intro w hSw; ((try dsimp only at hSw); go_simp; (try with_reducible rfl))
      simp only [Act.put, List.setIfInBounds_toArray, List.set_cons_zero, List.set_cons_succ]
      refine wpAnyN_tk (i := 4) (v := .agg [.int .u64 (s.kept.promised.toNat : Int), .int .u64 (s.kept.current.toNat : Int), .slice va LL vc].toArray) rfl (by kernel_rfl) (fun _ _ _ h => h) (yieldsIf_load_mid rfl 108 (.tmp 6) rfl nb 0 rfl [.int .u64 (s.kept.promised.toNat : Int), .int .u64 (s.kept.current.toNat : Int), .slice va LL vc] _ (fun w h => range_whole h.2.2) Try.underlying108 rfl (by kernel_rfl)) (by assumption) ?_
      simp only [Act.put, List.setIfInBounds_toArray, List.set_cons_zero, List.set_cons_succ]
      refine wpAnyN_one (i := 1) rfl (by kernel_rfl) ?_
      go_wp2_with fail
      refine (wbyte_any (Bytes.nil _ o7) (by simp) 4).mono ?_; rintro e1 w9 ⟨v9, o9, rfl, hs9, hnb9⟩
      have hs9 : Step Nobody w8 o7 w9 o9 := (Step.refl Nobody w8 o7).drew.trans hs9
      have bs9 := bs8.step hs9 (fun h => h)
      have bl9 := bl8.step hs9 (fun h => h)
      have bn9 := (hs9.block nb (lt_of_block bn8) (fun h => h)).trans bn8
      have hS9 := And.intro bs9.cell (And.intro bl9.cell bn9)
      clear hHeld
      go_wp2_with fail
      refine ⟨fun _ => hS9, ?_⟩
      refine wpAnyN_one (i := 3) rfl (by kernel_rfl) ?_
      go_wp2_with fail
      refine (slines_any hnb9.bytes (hl8.step hs9 (fun h => h)) (by simp; have := hrowH.out.2.2.1.2; omega) (by have := hrowH.out.2.2.1.1; omega)).mono ?_; rintro e1 w10 ⟨v10, o10, rfl, hs10, hnb10⟩
      have bs10 := bs9.step hs10 (fun h => h)
      have bl10 := bl9.step hs10 (fun h => h)
      have bn10 := (hs10.block nb (lt_of_block bn9) (fun h => h)).trans bn9
      have hS10 := And.intro bs10.cell (And.intro bl10.cell bn10)
      have st810 := hs9.trans hs10
      clear hS9
      go_wp2_with fail
      refine ⟨fun _ => hS10, ?_⟩
      refine wpAnyN_one (i := 5) rfl (by kernel_rfl) ?_
      go_wp2_with fail
      refine (hown.out _ _ st810).mono ?_; rintro e1 w11 ⟨v11, o11, rfl, hs11, lv11, rfl, hl11, rfl⟩
      obtain ⟨o11, ho11⟩ : ∃ o11, ext w10 o10 = o11 := ⟨_, rfl⟩
      rw [ho11] at hs11 hl11
      have bs11 := bs10.step hs11 (fun h => h)
      have bl11 := bl10.step hs11 (fun h => h)
      have bn11 := (hs11.block nb (lt_of_block bn10) (fun h => h)).trans bn10
      have hS11 := And.intro bs11.cell (And.intro bl11.cell bn11)
      have st811 := st810.trans hs11
      have hsz10 : w.heap.size ≤ w10.heap.size := (st8.trans st810).size
      have hwr := hidden (swrite_any htH.out (h8.step0 st811) hrowH.out.1 hrowH.out.2.1 v10 (4 :: encL ls) ((hnb10.congr (l' := 4 :: encL ls) (by simp)).step hs11 (fun h => h)).bytes hnb10.cap (by simp) (by simp [encL, length_be]; have := hrowH.out.2.2.1.2; omega) { s.kept with lines := s.kept.lines ++ ls } lv11 (hl11.low hsz10) hrowH.out.2.2.2.2)
      unfold keptV at hwr
      have stH := hidden (st8.trans st811)
      have tn11 := hidden ((st811.own nb (lt_of_block bn8)).trans tn7)
      clear hS10 hown ho11
      go_wp2_with fail
      refine ⟨fun _ => hS11, ?_⟩
      refine wpAnyN_one (i := 6) rfl (by kernel_rfl) ?_
      go_wp2_with fail
      refine hwr.out.mono ?_; rintro e1 w12 ⟨v12, o12, rfl, hs12, hwd⟩
      have bn12 := (hs12.block nb (lt_of_block bn11) (by rw [tn11.out]; exact (notIn4 N hN).2)).trans bn11
      have hS12 := And.intro (bs11.step hs12 nI0.out).cell (And.intro (bl11.step hs12 nI0.out).cell bn12)
      rw [hQH.out] at hwd
      obtain ⟨rfl, hwd2⟩ := hwd
      have hwd := hidden (show Wrote S A B D ps pd base w.heap.size Q (.int .i64 Q.2) w12 o12 from ⟨rfl, hwd2⟩)
      have stF := hidden ((stH.out.mono (T' := In4 S A B D) (fun _ h => h.elim)).trans hs12)
      clear hs12 hwr hwd2 hS11
      go_wp2_with fail
      refine ⟨fun _ => hS12, ?_⟩
      refine wpAnyN_tk (i := 7) (v := ?_) rfl (by kernel_rfl) (fun _ _ _ h => h) (Or.inl ⟨by rfl, ?_⟩) (by assumption) ?_
      rotate_left
      · intro w hSw; ((try dsimp only at hSw); go_simp; (try with_reducible rfl))
      simp only [Act.put, List.setIfInBounds_toArray, List.set_cons_zero, List.set_cons_succ]
      refine wpAnyN_done (by kernel_rfl) ?_ _
      clear hS12 hS8
      go_wp2_with fail
      go_ret
      exact ⟨_, o12, rfl, stF.out, hwd.out⟩
    · rw [if_neg hok] at hQ
      rw [if_neg hok] at hmayH
      clear hd hok
      have hF2 := hidden (show ∀ w3 o3, Step Nobody W2 o2 w3 o3 → Wrote S A B D ps pd base w.heap.size Q (.int .i64 1) w3 o3 from fun w3 o3 st => by rw [← hQ]; exact Wrote.same (hH.out.1.step0 st) rfl (by omega))
      clear hQ
      go_enter Try.func65, Try.ntmps65
      go_wp2_with fail
      rw [hW2H.out]
      refine hmayH.out.mono ?_; rintro e1 w3 ⟨v3, o3, rfl, hs3, rfl⟩
      go_wp2_with fail
      go_ret
      exact ⟨_, o3, rfl, ((hst2.out.trans hs3).mono (fun _ h => h.elim)), hF2.out w3 o3 hs3⟩
end Go.Proofs.YtfgggkheadfiaaaR
/- The reader of bytes as a plain Lean thing; its contracts. -/
namespace Go.Proofs.YtfgggkheadfiaaaR
open Go Go.RowKit
attribute [local go_sem ↓] Go.wp_at_zero Go.wp_at_succ

structure RdM where
  b : List UInt8
  bad : Bool
namespace RdM
def take (n : Nat) (m : RdM) : Option (List UInt8) × RdM :=
  if m.bad then (none, m) else if m.b.length < n then (none, { m with bad := true }) else (some (m.b.take n), { m with b := m.b.drop n })
def num (n : Nat) (m : RdM) : BitVec 64 × RdM := (((m.take n).1.map Go.Proofs.YtfgggkheadfiaaaR.num).getD 0, (m.take n).2)
def txt (n : Nat) (m : RdM) : List UInt8 × RdM := ((m.take n).1.getD [], (m.take n).2)
def text (m : RdM) : List UInt8 × RdM := (m.num 4).2.txt (m.num 4).1.toNat
def count (most : Nat) (m : RdM) : Nat × RdM := if most < (m.num 8).1.toNat then (0, { (m.num 8).2 with bad := true }) else ((m.num 8).1.toNat, (m.num 8).2)
def done (m : RdM) : Int := if m.bad || decide (0 < m.b.length) then 2 else 0
end RdM
/-- The reader m lies at block p; its block is the object Z's. -/
def RdAt (w : World) (o : Own) (Z p : Nat) (m : RdM) : Prop :=
  ∃ bv, w.heap[p]? = some (.cells #[bv, .bool m.bad] 207 (0, 0)) ∧ o p = (Z, 0) ∧ Bytes w o bv m.b
theorem RdAt.step {T : Nat → Prop} {w w' : World} {o o' : Own} {Z p : Nat} {m : RdM} (h : RdAt w o Z p m) (s : Step T w o w' o') (hZ : ¬ T Z) (h0 : ¬ T 0) : RdAt w' o' Z p m := by
  obtain ⟨bv, h1, h2, h3⟩ := h
  have hl := lt_of_block h1
  exact ⟨bv, by rw [s.block p hl (by rw [h2]; exact hZ)]; exact h1, by rw [s.own p hl]; exact h2, h3.step s h0⟩
theorem addr_add (b off k : Nat) : (⟨b, off, none⟩ : Addr).add k = ⟨b, off + k, none⟩ := Addr.add_mid b off k
theorem bytes_prefix {w : World} {o : Own} {bv : Value} {l : List UInt8} (h : Bytes w o bv l) (n : Nat) (hn : n ≤ l.length) :
    ∃ v, (Instr.sliceAt 28 bv none (some (.int .u64 (n : Int))) (some (.int .u64 (n : Int)))).run Try.prog w = .ok v w ∧ Bytes w o v (l.take n) := by
  have hu : Try.prog.underlying 28 = some (.slice (Try.prog.elem 28)) := by kernel_rfl
  have hsz : (sizeOf (Try.prog.elem 28)).run Try.prog w = .ok 1 w := by
    have : Try.prog.elem 28 = 5 := by kernel_rfl
    rw [this]
    have h5 : (Try.prog.info? 5).map (·.size) = some 1 := by kernel_rfl
    cases hq : Try.prog.info? 5 with
    | none => simp [hq] at h5
    | some i => simp [hq] at h5; simp [sizeOf, typeInfo, hq, h5]
  rcases h with ⟨⟨a, c, rfl⟩, h0, _⟩ | ⟨b, off, cap, rfl, hl, hm, ho, hb, hr⟩
  · have hn0 : n = 0 := by omega
    subst hn0
    refine ⟨_, ?_, .inl ⟨⟨a, 0, rfl⟩, by simp, by simp⟩⟩
    rw [run_sliceAt_slice _ _ _ _ _ _ hu, run_slice_hm w 28 a 0 c hu .u64 .u64 ((0 : Nat) : Int) ((0 : Nat) : Int) (by omega) (by omega) (by omega), hsz]
    rfl
  · by_cases hn0 : n = 0
    · subst hn0
      refine ⟨_, ?_, .inl ⟨⟨some ⟨b, off, none⟩, 0, rfl⟩, by simp, by simp⟩⟩
      rw [run_sliceAt_slice _ _ _ _ _ _ hu, run_slice_hm w 28 _ l.length cap hu .u64 .u64 ((0 : Nat) : Int) ((0 : Nat) : Int) (by omega) (by omega) (by omega), hsz]
      rfl
    · refine ⟨.slice (some ⟨b, off, none⟩) n n, ?_, .inr ⟨b, off, n, by rw [List.length_take, Nat.min_eq_left hn], by rw [List.length_take]; omega, by omega, ho, hb, ?_⟩⟩
      · rw [run_sliceAt_slice _ _ _ _ _ _ hu, run_slice_hm w 28 _ l.length cap hu .u64 .u64 n n (by omega) (by omega) (by omega), hsz]
        simp only [Result.andThen_ok, sliced, Int.toNat_natCast, Nat.sub_zero, if_neg hn0, Option.map_some, addr_add, Nat.zero_mul, Nat.add_zero]
      · rw [← bvs_take]; exact range_part hr 0 n
theorem bytes_rest {w : World} {o : Own} {bv : Value} {l : List UInt8} (h : Bytes w o bv l) (n : Nat) (hn : n ≤ l.length) :
    ∃ v, (Instr.sliceAt 28 bv (some (.int .u64 (n : Int))) none none).run Try.prog w = .ok v w ∧ Bytes w o v (l.drop n) := by
  have hu : Try.prog.underlying 28 = some (.slice (Try.prog.elem 28)) := by kernel_rfl
  have hsz : (sizeOf (Try.prog.elem 28)).run Try.prog w = .ok 1 w := by
    have : Try.prog.elem 28 = 5 := by kernel_rfl
    rw [this]
    have h5 : (Try.prog.info? 5).map (·.size) = some 1 := by kernel_rfl
    cases hq : Try.prog.info? 5 with
    | none => simp [hq] at h5
    | some i => simp [hq] at h5; simp [sizeOf, typeInfo, hq, h5]
  rcases h with ⟨⟨a, c, rfl⟩, h0, _⟩ | ⟨b, off, cap, rfl, hl, hm, ho, hb, hr⟩
  · have hn0 : n = 0 := by omega
    subst hn0
    refine ⟨_, ?_, .inl ⟨⟨if c = 0 then a else a.map (·.add (0 * 1)), c - 0, rfl⟩, by simpa using h0, by rw [List.eq_nil_of_length_eq_zero h0]; rfl⟩⟩
    rw [run_sliceAt_slice _ _ _ _ _ _ hu, run_slice_l w 28 a 0 c hu .u64 ((0 : Nat) : Int) (by omega) (by omega), hsz]
    rfl
  · by_cases hn0 : n = l.length
    · refine ⟨.slice (if cap = n then some ⟨b, off, none⟩ else some ⟨b, off + n, none⟩) 0 (cap - n), ?_, .inl ⟨⟨_, _, rfl⟩, by simp; omega, by rw [List.drop_eq_nil_of_le (by omega)]; rfl⟩⟩
      rw [run_sliceAt_slice _ _ _ _ _ _ hu, run_slice_l w 28 _ l.length cap hu .u64 n (by omega) (by omega), hsz]
      simp only [Result.andThen_ok, sliced, Int.toNat_natCast, Option.map_some, addr_add, Nat.mul_one]
      rw [hn0, Nat.sub_self]
    · refine ⟨.slice (some ⟨b, off + n, none⟩) (l.length - n) (cap - n), ?_, .inr ⟨b, off + n, cap - n, by rw [List.length_drop], by rw [List.length_drop]; omega, by omega, ho, hb, ?_⟩⟩
      · rw [run_sliceAt_slice _ _ _ _ _ _ hu, run_slice_l w 28 _ l.length cap hu .u64 n (by omega) (by omega), hsz]
        simp only [Result.andThen_ok, sliced, Int.toNat_natCast, Option.map_some, addr_add, Nat.mul_one]
        rw [if_neg (by omega)]
      · have := range_part hr n (l.length - n)
        rw [List.take_of_length_le (by rw [List.length_drop, length_bvs]; omega), bvs_drop] at this
        exact this

set_option maxRecDepth 100000 in
set_option maxHeartbeats 1600000 in
theorem rdnew_any {w : World} {o : Own} {v : Value} {l : List UInt8} (Z : Nat) (h : Bytes w o v l) (hl : l.length ≤ 1000000) :
    Calls Try.prog 127 #[v] w (Ret Nobody w o fun v w' o' => ∃ p, w.heap.size ≤ p ∧ v = .pointer (some ⟨p, 0, none⟩) ∧ RdAt w' o' Z p ⟨l, false⟩) := by
  have hc := hidden (clone_any h (by omega))
  clear h
  go_enter Try.func127, Try.ntmps127
  go_wp2_with fail
  refine hc.out.mono ?_; rintro e w1 ⟨v1, o1, rfl, hs, hnb⟩
  have hst := hs.alloc (.cells #[v1, .bool false] 207) (Z, 0)
  have hR : RdAt (w1.alloc (.cells #[v1, .bool false] 207)) (tagAt o1 w1.heap.size (Z, 0)) Z w1.heap.size ⟨l, false⟩ :=
    ⟨v1, heap_alloc_new w1 _, tagAt_same _ _ _, hnb.bytes.step ((Step.refl Nobody w1 o1).alloc _ (Z, 0)) (fun h => h)⟩
  have hF := hidden (And.intro hst hR)
  have hsz := hs.size
  obtain ⟨a, c, hv⟩ := slc_form hnb.bytes
  subst hv
  clear hst hR hnb hs
  go_wp2_with fail
  go_ret
  exact ⟨_, _, rfl, hF.out.1, w1.heap.size, hsz, rfl, hF.out.2⟩
set_option maxRecDepth 100000 in
set_option maxHeartbeats 1600000 in
theorem vvalue_any {w : World} {o : Own} {v : Value} {l : List UInt8} (h : Bytes w o v l) (hll : l.length ≤ 1000000) :
    Calls Try.prog 143 #[v] w fun e w' => e = .returned (.int .u64 ((num l).toNat : Int)) ∧ w = w' := by
  obtain ⟨a, c, hv⟩ := slc_form h
  have hcell : ∀ i (hi : i < l.length), ∃ b off, a = some ⟨b, off, none⟩ ∧ w.cell? ⟨b, off + i, none⟩ = some (.int .u8 ((l[i].toNat : Int))) := by
    intro i hi
    rcases h.cases with ⟨_, rfl⟩ | ⟨b, off, cap, hv2, hl, hm, ho, hb, hr⟩
    · simp at hi
    · rw [hv] at hv2
      simp only [Value.slice.injEq] at hv2
      refine ⟨b, off, hv2.1, hr i _ ?_⟩
      rw [get_bvs, List.getElem?_eq_getElem hi]; rfl
  subst hv
  clear h
  go_enter Try.func143, Try.ntmps143
  go_wp2_with fail
  go_loop [3, 8] (fun n i => ∃ k : Nat, k ≤ l.length ∧ i = .int .i64 k ∧ n = .int .u64 ((num (l.take k)).toNat : Int)) (fun _ i => l.length - (intOf i).toNat)
  case atStart => exact ⟨0, Nat.zero_le _, rfl, rfl⟩
  case round =>
    obtain ⟨k, hk, rfl, rfl⟩ := hrel
    by_cases hlt : k < l.length
    · obtain ⟨b, off, rfl, hc⟩ := hcell k hlt
      have hsn : num (l.take (k + 1)) = (num (l.take k) <<< 8) ||| BitVec.ofNat 64 l[k].toNat := by
        rw [List.take_succ_eq_append_getElem hlt, num_snoc]
      have hsnH := hidden hsn
      clear hsn hcell
      generalize hcc : l[k] = cc at *
      clear hcc
      go_wp2_with fail
      go_round
      case rel => exact ⟨k + 1, hlt, by go_num, by rw [hsnH.out, ← bits_or, ← wrap_shl8, ← wrap_u8]⟩
      case measure => simp [intOf]; omega
    · have hk' : k = l.length := by omega
      subst hk'
      rw [List.take_length]
      go_wp2_with fail
      go_ret
      exact ⟨rfl, rfl⟩
set_option maxRecDepth 100000 in
set_option maxHeartbeats 1600000 in
theorem clone1_any {w : World} {o : Own} {v : Value} {l : List UInt8} (h : Bytes w o v l) (hll : l.length ≤ 1000000) : Calls Try.prog 148 #[v] w (Ret Nobody w o fun v w' o' => NewB w w' o' v l) := by
  have hc := hidden (clone_any h (by omega))
  clear h
  go_enter Try.func148, Try.ntmps148
  go_wp2_with fail
  refine hc.out.mono ?_; rintro e w1 ⟨v1, o1, rfl, hs, hnb⟩
  go_wp2_with fail
  go_ret
  exact ⟨_, o1, rfl, hs, hnb⟩
set_option maxRecDepth 100000 in
set_option maxHeartbeats 3200000 in
theorem rtake_num {w : World} {o : Own} {Z p : Nat} {m : RdM} (h : RdAt w o Z p m) (hZ : Z ≠ 0) (hm : m.b.length ≤ 1000000) (n : Nat) (hn : n ≤ 8) :
    Calls Try.prog 142 #[.pointer (some ⟨p, 0, none⟩), .int .u64 (n : Int), .func (.func 143) #[] #[]] w (Ret (Only Z) w o fun v w' o' => v = .int .u64 ((m.num n).1.toNat : Int) ∧ RdAt w' o' Z p (m.num n).2) := by
  obtain ⟨bv, h1, h2, h3⟩ := h
  obtain ⟨L, hL⟩ : ∃ L, m.b.length = L := ⟨_, rfl⟩
  have hni : (0 : Int) ≤ (n : Int) ∧ (n : Int) ≤ 8 := by omega
  have hLi : (0 : Int) ≤ (L : Int) ∧ (L : Int) ≤ 1000000 := by omega
  have c0 : w.cell? ⟨p, 0, none⟩ = some bv := cell_of_block (cs := [_, _]) h1 0
  have c1 : w.cell? ⟨p, 1, none⟩ = some (.bool m.bad) := cell_of_block (cs := [_, _]) h1 1
  have f0 : w.frozen? ⟨p, 0, none⟩ = false := free_of_block (cs := [_, _]) h1 0
  have f1 : w.frozen? ⟨p, 1, none⟩ = false := free_of_block (cs := [_, _]) h1 1
  have hck := Try.call143
  obtain ⟨q, hq⟩ : ∃ q, m.take n = q := ⟨_, rfl⟩
  have hqH := hidden hq
  unfold RdM.num
  rw [hq]
  unfold RdM.take at hq
  have h0 : ¬ Only Z 0 := fun h => hZ h.symm
  have hH := hidden (And.intro h1 (And.intro h2 h3))
  obtain ⟨ba, bc, rfl⟩ := slc_form h3
  cases hb : m.bad with
  | true =>
    rw [hb] at c1
    rw [if_pos hb] at hq
    have hF := hidden (show q.1 = none ∧ RdAt w o Z p q.2 from by rw [← hq]; exact ⟨rfl, _, h1, h2, h3⟩)
    clear hq h1 h2 h3 hb
    go_enter Try.func142, Try.ntmps142
    go_wp2_with fail
    go_ret
    exact ⟨_, o, rfl, Step.refl _ _ _, by rw [hF.out.1]; rfl, hF.out.2⟩
  | false =>
    rw [hb] at c1
    rw [if_neg (by rw [hb]; simp)] at hq
    by_cases hlt : L < n
    · rw [if_pos (by omega)] at hq
      have hltI : (L : Int) < (n : Int) := by omega
      have hset := (Step.refl (Only Z) w o).setCell (a := ⟨p, 1, none⟩) (.bool true) (.inl (by show (o p).1 = Z; rw [h2]))
      have hF := hidden (show q.1 = none ∧ RdAt (w.setCell ⟨p, 1, none⟩ (.bool true)) o Z p q.2 from by rw [← hq]; exact ⟨rfl, _, heap_setCell_at (cs := [_, _]) (i := 1) _ h1, h2, h3.step hset h0⟩)
      have hsH := hidden hset
      rw [hL] at c0
      clear hq h1 h2 h3 hb hset hH
      go_enter Try.func142, Try.ntmps142
      go_wp2_with fail
      go_ret
      exact ⟨_, o, rfl, hsH.out, by rw [hF.out.1]; rfl, hF.out.2⟩
    · rw [if_neg (by omega)] at hq
      have hltI : ¬ (L : Int) < (n : Int) := by omega
      obtain ⟨v1, r1, hb1⟩ := bytes_prefix h3 n (by omega)
      obtain ⟨v2, r2, hb2⟩ := bytes_rest h3 n (by omega)
      obtain ⟨a2, d2, e2⟩ := slc_form hb2
      rw [List.length_drop, hL] at e2
      obtain ⟨L2, hL2⟩ : ∃ L2, L - n = L2 := ⟨_, rfl⟩
      rw [hL2] at e2
      subst e2
      clear hL2
      have hset := (Step.refl (Only Z) w o).setCell (a := ⟨p, 0, none⟩) (.slice a2 L2 d2) (.inl (by show (o p).1 = Z; rw [h2]))
      have hF := hidden (show q.1 = some (m.b.take n) ∧ RdAt (w.setCell ⟨p, 0, none⟩ (.slice a2 L2 d2)) o Z p q.2 from by rw [← hq]; exact ⟨rfl, _, heap_setCell_at (cs := [_, _]) (i := 0) _ h1, h2, hb2.step hset h0⟩)
      have hcl := hidden (vvalue_any (hb1.step hset h0) (by rw [List.length_take]; omega))
      have hsH := hidden hset
      have r1H := hidden r1
      have r2H := hidden r2
      rw [hL] at c0 r1H r2H
      clear hq h1 h2 h3 hb hset r1 r2 hb1 hb2 hH
      go_enter Try.func142, Try.ntmps142
      go_wp2_with ((with_reducible apply lit_slice); (first | exact r1H.out | exact r2H.out); simp only [Act.put, List.setIfInBounds_toArray, List.set_cons_zero, List.set_cons_succ])
      refine hcl.out.mono ?_; rintro e w3 ⟨rfl, rfl⟩
      go_wp2_with fail
      go_ret
      exact ⟨_, o, rfl, hsH.out, by rw [hF.out.1]; rfl, hF.out.2⟩
set_option maxRecDepth 100000 in
set_option maxHeartbeats 3200000 in
theorem rtake_txt {w : World} {o : Own} {Z p : Nat} {m : RdM} (h : RdAt w o Z p m) (hZ : Z ≠ 0) (hm : m.b.length ≤ 1000000) (n : Nat) (hn : n ≤ 4294967295) :
    Calls Try.prog 147 #[.pointer (some ⟨p, 0, none⟩), .int .u64 (n : Int), .func (.func 148) #[] #[]] w (Ret (Only Z) w o fun v w' o' => (Bytes w' o' v (m.txt n).1 ∧ Fresh w.heap.size v) ∧ RdAt w' o' Z p (m.txt n).2) := by
  obtain ⟨bv, h1, h2, h3⟩ := h
  obtain ⟨L, hL⟩ : ∃ L, m.b.length = L := ⟨_, rfl⟩
  have hni : (0 : Int) ≤ (n : Int) ∧ (n : Int) ≤ 4294967295 := by omega
  have hLi : (0 : Int) ≤ (L : Int) ∧ (L : Int) ≤ 1000000 := by omega
  have c0 : w.cell? ⟨p, 0, none⟩ = some bv := cell_of_block (cs := [_, _]) h1 0
  have c1 : w.cell? ⟨p, 1, none⟩ = some (.bool m.bad) := cell_of_block (cs := [_, _]) h1 1
  have f0 : w.frozen? ⟨p, 0, none⟩ = false := free_of_block (cs := [_, _]) h1 0
  have f1 : w.frozen? ⟨p, 1, none⟩ = false := free_of_block (cs := [_, _]) h1 1
  have hck := Try.call148
  obtain ⟨q, hq⟩ : ∃ q, m.take n = q := ⟨_, rfl⟩
  have hqH := hidden hq
  unfold RdM.txt
  rw [hq]
  unfold RdM.take at hq
  have h0 : ¬ Only Z 0 := fun h => hZ h.symm
  have hH := hidden (And.intro h1 (And.intro h2 h3))
  obtain ⟨ba, bc, rfl⟩ := slc_form h3
  cases hb : m.bad with
  | true =>
    rw [hb] at c1
    rw [if_pos hb] at hq
    have hF := hidden (show q.1 = none ∧ RdAt w o Z p q.2 from by rw [← hq]; exact ⟨rfl, _, h1, h2, h3⟩)
    clear hq h1 h2 h3 hb
    go_enter Try.func147, Try.ntmps147
    go_wp2_with fail
    go_ret
    exact ⟨_, o, rfl, Step.refl _ _ _, by rw [hF.out.1]; exact ⟨Bytes.nil _ _, Fresh.nil _ _ _⟩, hF.out.2⟩
  | false =>
    rw [hb] at c1
    rw [if_neg (by rw [hb]; simp)] at hq
    by_cases hlt : L < n
    · rw [if_pos (by omega)] at hq
      have hltI : (L : Int) < (n : Int) := by omega
      have hset := (Step.refl (Only Z) w o).setCell (a := ⟨p, 1, none⟩) (.bool true) (.inl (by show (o p).1 = Z; rw [h2]))
      have hF := hidden (show q.1 = none ∧ RdAt (w.setCell ⟨p, 1, none⟩ (.bool true)) o Z p q.2 from by rw [← hq]; exact ⟨rfl, _, heap_setCell_at (cs := [_, _]) (i := 1) _ h1, h2, h3.step hset h0⟩)
      have hsH := hidden hset
      rw [hL] at c0
      clear hq h1 h2 h3 hb hset hH
      go_enter Try.func147, Try.ntmps147
      go_wp2_with fail
      go_ret
      exact ⟨_, o, rfl, hsH.out, by rw [hF.out.1]; exact ⟨Bytes.nil _ _, Fresh.nil _ _ _⟩, hF.out.2⟩
    · rw [if_neg (by omega)] at hq
      have hltI : ¬ (L : Int) < (n : Int) := by omega
      obtain ⟨v1, r1, hb1⟩ := bytes_prefix h3 n (by omega)
      obtain ⟨v2, r2, hb2⟩ := bytes_rest h3 n (by omega)
      obtain ⟨a2, d2, e2⟩ := slc_form hb2
      rw [List.length_drop, hL] at e2
      obtain ⟨L2, hL2⟩ : ∃ L2, L - n = L2 := ⟨_, rfl⟩
      rw [hL2] at e2
      subst e2
      clear hL2
      have hset := (Step.refl (Only Z) w o).setCell (a := ⟨p, 0, none⟩) (.slice a2 L2 d2) (.inl (by show (o p).1 = Z; rw [h2]))
      have hF := hidden (show q.1 = some (m.b.take n) ∧ RdAt (w.setCell ⟨p, 0, none⟩ (.slice a2 L2 d2)) o Z p q.2 from by rw [← hq]; exact ⟨rfl, _, heap_setCell_at (cs := [_, _]) (i := 0) _ h1, h2, hb2.step hset h0⟩)
      have hcl := hidden (clone1_any (hb1.step hset h0) (by rw [List.length_take]; omega))
      have hsH := hidden hset
      have r1H := hidden r1
      have r2H := hidden r2
      rw [hL] at c0 r1H r2H
      clear hq h1 h2 h3 hb hset r1 r2 hb1 hb2 hH
      go_enter Try.func147, Try.ntmps147
      go_wp2_with ((with_reducible apply lit_slice); (first | exact r1H.out | exact r2H.out); simp only [Act.put, List.setIfInBounds_toArray, List.set_cons_zero, List.set_cons_succ])
      refine hcl.out.mono ?_; rintro e w3 ⟨v3, o3, rfl, hs3, hnb⟩
      go_wp2_with fail
      go_ret
      exact ⟨_, o3, rfl, hsH.out.trans (hs3.only Z), by rw [hF.out.1]; exact ⟨hnb.bytes, hnb.fresh.low (by have := hsH.out.size; omega)⟩, hF.out.2.step hs3 (fun h => h) (fun h => h)⟩
end Go.Proofs.YtfgggkheadfiaaaR
/- Contracts of the reader: Byte, Uint, Text, Count, Bad, Done; store.read. -/
namespace Go.Proofs.YtfgggkheadfiaaaR
open Go Go.RowKit
attribute [local go_sem ↓] Go.wp_at_zero Go.wp_at_succ

theorem RdM.num_len (n : Nat) (m : RdM) : (m.num n).2.b.length ≤ m.b.length := by
  unfold RdM.num RdM.take; split
  · exact Nat.le_refl _
  · split
    · exact Nat.le_refl _
    · show (m.b.drop n).length ≤ _; rw [List.length_drop]; omega
theorem RdM.txt_len (n : Nat) (m : RdM) : (m.txt n).2.b.length ≤ m.b.length ∧ (m.txt n).1.length ≤ m.b.length := by
  unfold RdM.txt RdM.take; split
  · exact ⟨Nat.le_refl _, by simp⟩
  · split
    · exact ⟨Nat.le_refl _, by simp⟩
    · refine ⟨?_, ?_⟩
      · show (m.b.drop n).length ≤ _; rw [List.length_drop]; omega
      · show (m.b.take n).length ≤ _; rw [List.length_take]; omega
theorem RdM.num_small {n : Nat} (hn : n ≤ 8) (m : RdM) : (m.num n).1.toNat < 256 ^ n ∨ (m.num n).1 = 0 := by
  unfold RdM.num RdM.take; split
  · exact .inr rfl
  · split
    · exact .inr rfl
    · rename_i h1 h2
      left
      show (Go.Proofs.YtfgggkheadfiaaaR.num (m.b.take n)).toNat < _
      have hl : (m.b.take n).length = n := by rw [List.length_take]; omega
      rw [Go.Proofs.YtfgggkheadfiaaaR.num_small (by omega)]
      have := numN_lt (m.b.take n)
      rw [hl] at this; exact this
section
variable {w : World} {o : Own} {Z p : Nat} {m : RdM}
set_option maxRecDepth 100000 in
set_option maxHeartbeats 1600000 in
theorem rbyte_any (h : RdAt w o Z p m) (hZ : Z ≠ 0) (hm : m.b.length ≤ 1000000) :
    Calls Try.prog 128 #[.pointer (some ⟨p, 0, none⟩)] w (Ret (Only Z) w o fun v w' o' => v = .int .u8 (((m.num 1).1.toNat % 256 : Nat) : Int) ∧ RdAt w' o' Z p (m.num 1).2) := by
  have hc := hidden (rtake_num h hZ hm 1 (by omega))
  have hs := RdM.num_small (n := 1) (by omega) m
  have hlt : (m.num 1).1.toNat < 256 := by
    rcases hs with hs | hs
    · simpa using hs
    · rw [hs]; decide
  have hlI : (0 : Int) ≤ ((m.num 1).1.toNat : Int) ∧ ((m.num 1).1.toNat : Int) < 256 := by omega
  have hmod : (m.num 1).1.toNat % 256 = (m.num 1).1.toNat := Nat.mod_eq_of_lt hlt
  rw [hmod]
  clear hs h hmod hlt
  go_enter Try.func128, Try.ntmps128
  go_wp2_with fail
  refine hc.out.mono ?_; rintro e w1 ⟨v1, o1, rfl, hs, rfl, hr⟩
  go_wp2_with fail
  go_ret
  exact ⟨_, o1, rfl, hs, rfl, hr⟩
set_option maxRecDepth 100000 in
set_option maxHeartbeats 1600000 in
theorem ruint_any (h : RdAt w o Z p m) (hZ : Z ≠ 0) (hm : m.b.length ≤ 1000000) :
    Calls Try.prog 129 #[.pointer (some ⟨p, 0, none⟩)] w (Ret (Only Z) w o fun v w' o' => v = .int .u64 ((m.num 8).1.toNat : Int) ∧ RdAt w' o' Z p (m.num 8).2) := by
  have hc := hidden (rtake_num h hZ hm 8 (by omega))
  clear h
  go_enter Try.func129, Try.ntmps129
  go_wp2_with fail
  refine hc.out.mono ?_; rintro e w1 ⟨v1, o1, rfl, hs, rfl, hr⟩
  go_wp2_with fail
  go_ret
  exact ⟨_, o1, rfl, hs, rfl, hr⟩
set_option maxRecDepth 100000 in
set_option maxHeartbeats 1600000 in
theorem rtext_any (h : RdAt w o Z p m) (hZ : Z ≠ 0) (hm : m.b.length ≤ 1000000) :
    Calls Try.prog 145 #[.pointer (some ⟨p, 0, none⟩)] w (Ret (Only Z) w o fun v w' o' => (Bytes w' o' v m.text.1 ∧ Fresh w.heap.size v) ∧ RdAt w' o' Z p m.text.2) := by
  have hc := hidden (rtake_num h hZ hm 4 (by omega))
  have hs := RdM.num_small (n := 4) (by omega) m
  have hlt : (m.num 4).1.toNat ≤ 4294967295 := by
    rcases hs with hs | hs
    · have : (256 : Nat) ^ 4 = 4294967296 := by decide
      omega
    · rw [hs]; decide
  have hl2 := RdM.num_len 4 m
  have hc2 := hidden (fun (W : World) (O : Own) (hr : RdAt W O Z p (m.num 4).2) => rtake_txt hr hZ (by omega) (m.num 4).1.toNat hlt)
  clear hs h hl2
  unfold RdM.text
  generalize (m.num 4).1.toNat = n4 at *
  generalize (m.num 4).2 = m4 at *
  go_enter Try.func145, Try.ntmps145
  go_wp2_with fail
  refine hc.out.mono ?_; rintro e w1 ⟨v1, o1, rfl, hs, rfl, hr⟩
  have hc3 := hidden (hc2.out _ _ hr)
  have hsz := hs.size
  clear hc hc2
  go_wp2_with fail
  refine hc3.out.mono ?_; rintro e w2 ⟨v2, o2, rfl, hs2, ⟨hb, hf⟩, hr2⟩
  go_wp2_with fail
  go_ret
  exact ⟨_, o2, rfl, hs.trans hs2, ⟨hb, hf.low hsz⟩, hr2⟩
set_option maxRecDepth 100000 in
set_option maxHeartbeats 1600000 in
theorem rbad_any (h : RdAt w o Z p m) (hZ : Z ≠ 0) :
    Calls Try.prog 146 #[.pointer (some ⟨p, 0, none⟩)] w (Ret (Only Z) w o fun v w' o' => v = .tuple #[] ∧ RdAt w' o' Z p { m with bad := true }) := by
  obtain ⟨bv, h1, h2, h3⟩ := h
  have c1 : w.cell? ⟨p, 1, none⟩ = some (.bool m.bad) := cell_of_block (cs := [_, _]) h1 1
  have f1 : w.frozen? ⟨p, 1, none⟩ = false := free_of_block (cs := [_, _]) h1 1
  have hset := (Step.refl (Only Z) w o).setCell (a := ⟨p, 1, none⟩) (.bool true) (.inl (by show (o p).1 = Z; rw [h2]))
  have hF := hidden (show RdAt (w.setCell ⟨p, 1, none⟩ (.bool true)) o Z p { m with bad := true } from ⟨_, heap_setCell_at (cs := [_, _]) (i := 1) _ h1, h2, h3.step hset (fun h => hZ h.symm)⟩)
  have hsH := hidden hset
  clear h1 h2 h3 hset
  go_enter Try.func146, Try.ntmps146
  go_wp2_with fail
  first | go_end0 | refine bodyPost_ret (results_none rfl _ _ _) rfl ?_
  exact ⟨_, o, rfl, hsH.out, rfl, hF.out⟩
set_option maxRecDepth 100000 in
set_option maxHeartbeats 1600000 in
theorem rcount_any (h : RdAt w o Z p m) (hZ : Z ≠ 0) (hm : m.b.length ≤ 1000000) (most : Nat) (hmost : most ≤ 1000000) :
    Calls Try.prog 144 #[.pointer (some ⟨p, 0, none⟩), .int .i64 (most : Int)] w (Ret (Only Z) w o fun v w' o' => v = .int .i64 ((m.count most).1 : Int) ∧ RdAt w' o' Z p (m.count most).2) := by
  have hc := hidden (ruint_any h hZ hm)
  have hlt := (m.num 8).1.isLt
  obtain ⟨q, hq⟩ : ∃ q, m.count most = q := ⟨_, rfl⟩
  rw [hq]
  unfold RdM.count at hq
  generalize (m.num 8).1.toNat = n8 at *
  generalize (m.num 8).2 = m8 at *
  have hnI : (0 : Int) ≤ (n8 : Int) ∧ (n8 : Int) < 18446744073709551616 := by omega
  have hmI : (0 : Int) ≤ (most : Int) ∧ (most : Int) ≤ 1000000 := by omega
  clear h hlt
  by_cases hb : most < n8
  · rw [if_pos hb] at hq
    have hbI : (most : Int) < (n8 : Int) := by omega
    have hqH := hidden hq
    clear hq
    go_enter Try.func144, Try.ntmps144
    go_wp2_with fail
    refine hc.out.mono ?_; rintro e w1 ⟨v1, o1, rfl, hs, rfl, hr⟩
    have hc3 := hidden (rbad_any hr hZ)
    clear hc
    go_wp2_with fail
    refine hc3.out.mono ?_; rintro e w2 ⟨v2, o2, rfl, hs2, rfl, hr2⟩
    go_wp2_with fail
    go_ret
    exact ⟨_, o2, rfl, hs.trans hs2, by rw [← hqH.out]; rfl, by rw [← hqH.out]; exact hr2⟩
  · rw [if_neg hb] at hq
    have hbI : ¬ (most : Int) < (n8 : Int) := by omega
    have hbJ : (n8 : Int) ≤ 1000000 := by omega
    have hqH := hidden hq
    clear hq
    go_enter Try.func144, Try.ntmps144
    go_wp2_with fail
    refine hc.out.mono ?_; rintro e w1 ⟨v1, o1, rfl, hs, rfl, hr⟩
    clear hc
    go_wp2_with fail
    go_ret
    exact ⟨_, o1, rfl, hs, by rw [← hqH.out]; rfl, by rw [← hqH.out]; exact hr⟩
set_option maxRecDepth 100000 in
set_option maxHeartbeats 1600000 in
theorem rdone_any (h : RdAt w o Z p m) : Calls Try.prog 131 #[.pointer (some ⟨p, 0, none⟩)] w fun e w' => e = .returned (.int .i64 m.done) ∧ w = w' := by
  obtain ⟨bv, h1, h2, h3⟩ := h
  have c0 : w.cell? ⟨p, 0, none⟩ = some bv := cell_of_block (cs := [_, _]) h1 0
  have c1 : w.cell? ⟨p, 1, none⟩ = some (.bool m.bad) := cell_of_block (cs := [_, _]) h1 1
  obtain ⟨ba, bc, rfl⟩ := slc_form h3
  obtain ⟨D, hD⟩ : ∃ D, m.done = D := ⟨_, rfl⟩
  rw [hD]
  unfold RdM.done at hD
  generalize m.b.length = L at *
  clear h1 h2 h3
  cases hb : m.bad with
  | true =>
    rw [hb] at c1 hD
    have hDH := hidden hD
    clear hD hb
    go_enter Try.func131, Try.ntmps131
    go_wp2_with fail
    go_ret
    exact ⟨by rw [← hDH.out]; rfl, rfl⟩
  | false =>
    rw [hb] at c1 hD
    by_cases hl : 0 < L
    · have hlI : (0 : Int) < (L : Int) := by omega
      have hDH := hidden (show D = 2 by rw [← hD]; simp [hl])
      clear hD hb hl
      go_enter Try.func131, Try.ntmps131
      go_wp2_with fail
      go_ret
      exact ⟨by rw [hDH.out]; rfl, rfl⟩
    · have hlI : ¬ (0 : Int) < (L : Int) := by omega
      have hDH := hidden (show D = 0 by rw [← hD]; simp [hl])
      clear hD hb hl
      go_enter Try.func131, Try.ntmps131
      go_wp2_with fail
      go_ret
      exact ⟨by rw [hDH.out]; rfl, rfl⟩
end
/-- Lines, read one by one. -/
def readK : Nat → RdM → List LineM × RdM
  | 0, m => ([], m)
  | k + 1, m => ((readK k m).1 ++ [⟨((readK k m).2.num 8).1, ((readK k m).2.num 8).2.text.1⟩], ((readK k m).2.num 8).2.text.2)
def RdM.lines (m : RdM) : List LineM × RdM := readK (m.count 256).1 (m.count 256).2
theorem RdM.text_len (m : RdM) : m.text.2.b.length ≤ m.b.length := by
  unfold RdM.text
  have h1 := RdM.num_len 4 m
  have h2 := (RdM.txt_len (m.num 4).1.toNat (m.num 4).2).1
  omega
theorem readK_len (k : Nat) (m : RdM) : (readK k m).2.b.length ≤ m.b.length ∧ (readK k m).1.length = k := by
  induction k with
  | zero => exact ⟨Nat.le_refl _, rfl⟩
  | succ k ih =>
    have h1 := RdM.num_len 8 (readK k m).2
    have h2 := RdM.text_len ((readK k m).2.num 8).2
    refine ⟨?_, by simp [readK, ih.2]⟩
    show ((readK k m).2.num 8).2.text.2.b.length ≤ _
    omega
theorem RdM.count_len (most : Nat) (m : RdM) : (m.count most).2.b.length ≤ m.b.length ∧ (m.count most).1 ≤ most := by
  have h1 := RdM.num_len 8 m
  unfold RdM.count; split
  · exact ⟨h1, Nat.zero_le _⟩
  · rename_i h; exact ⟨h1, by show (m.num 8).1.toNat ≤ most; omega⟩
theorem Bytes.retag2 {w : World} {o o' : Own} {v : Value} {l : List UInt8} (h : Bytes w o v l) (ho : ∀ b, b < w.heap.size → (o b).1 = 0 → (o' b).1 = 0) : Bytes w o' v l := by
  rcases h with h | ⟨b, off, cap, rfl, h1, h2, h3, h4, h5⟩
  · exact .inl h
  · exact .inr ⟨b, off, cap, rfl, h1, h2, ho b h4 h3, h4, h5⟩
theorem LnC.retag2 {w : World} {o o' : Own} {cs : List Value} {ls : List LineM} (h : LnC w o cs ls) (ho : ∀ b, b < w.heap.size → (o b).1 = 0 → (o' b).1 = 0) : LnC w o' cs ls :=
  ⟨h.1, fun i x hx => by
    obtain ⟨a, bv, b, c⟩ := h.2 i x hx
    exact ⟨a, bv, b, c.retag2 ho⟩⟩
/-- A row of lines of its own: the row's block bears the tag t. -/
def LRow (w : World) (o : Own) (base : Nat) (t : Nat × Nat) (v : Value) (ls : List LineM) : Prop :=
  ∃ cs, w.ownsRow base 113 2 v ls.length cs ∧ (∀ g, v.ownBlock = some g → o g = t) ∧ LnC w o cs ls ∧ ∀ u ∈ cs, Fresh base u
theorem LRow.nil (w : World) (o : Own) (base : Nat) (t : Nat × Nat) : LRow w o base t (.slice none 0 0) [] := ⟨[], World.ownsRow_nil _ _ _ _, fun g hg => by simp [Value.ownBlock] at hg, LnC.nil w o, by simp⟩
theorem LRow.step {T : Nat → Prop} {w w' : World} {o o' : Own} {base : Nat} {t : Nat × Nat} {v : Value} {ls : List LineM} (h : LRow w o base t v ls) (s : Step T w o w' o') (ht : ¬ T t.1) (h0 : ¬ T 0) : LRow w' o' base t v ls := by
  obtain ⟨cs, h1, h2, h3, h4⟩ := h
  exact ⟨cs, ownsRow_same h1 fun k hk => s.block k (h1.lt k hk).2 (by rw [h2 k hk]; exact ht), fun g hg => by rw [s.own g (h1.lt g hg).2]; exact h2 g hg, h3.step s h0, h4⟩
theorem LRow.form {w : World} {o : Own} {base : Nat} {t : Nat × Nat} {v : Value} {ls : List LineM} (h : LRow w o base t v ls) : ∃ a c, v = .slice a ls.length c := by
  obtain ⟨cs, h1, -⟩ := h; exact own_form h1
/-- As plain data, once nothing will write it any more. -/
theorem LRow.lines {w : World} {o o' : Own} {base : Nat} {t : Nat × Nat} {v : Value} {ls : List LineM} (h : LRow w o base t v ls) (ho : ∀ k, base ≤ k → (o' k).1 = 0) : Lines w o' base v ls := by
  obtain ⟨cs, h1, h2, h3, h4⟩ := h
  have hf : Fresh base v := Fresh.own h1 (Nat.le_refl _)
  refine ⟨cs, ?_, ⟨h3.1, fun i x hx => ?_⟩, hf, h4⟩
  · rcases h1.2 with ⟨rfl, h0⟩ | ⟨g, cap, cur, rfl, q1, q2, q3, q4, q5, q6⟩
    · refine .inl ⟨⟨none, 0, rfl⟩, h0, ?_⟩
      apply List.eq_nil_of_length_eq_zero; rw [h1.1, h0]
    · refine .inr ⟨g, 0, cap, rfl, q3, q4, ho g q1, lt_of_block q2, ?_⟩
      have := range_of_block (w := w) (b := g) (cs := cur.toList) (E := 113) (fr := (0, 0)) (by simpa using q2) 0 (ls.length * 2)
      rw [List.drop_zero, q6] at this; exact this
  · obtain ⟨a, bv, b, c⟩ := h3.2 i x hx
    exact ⟨a, bv, b, c.retag (h4 bv (List.mem_of_getElem? b)) ho⟩
/-- Lines are appended, from a source of plain cells. -/
theorem LRow.append {W : World} {o : Own} {base X : Nat} {v : Value} {l1 l2 : List LineM} (h : LRow W o base (X, 0) v l1) (hX : X ≠ 0) (hbase : base ≤ W.heap.size) {sb soff c : Nat} {cs2 : List Value} (hr : W.rangeAt sb soff cs2) (h2 : LnC W o cs2 l2) (hf : ∀ u ∈ cs2, Fresh base u) (hpos : 0 < l2.length) (hn : l1.length + l2.length ≤ 100000) :
    ∃ nv w' o', (Builtin.append_ #[93, 93] 93 #[v, .slice (some ⟨sb, soff, none⟩) l2.length c]).run Try.prog W = .ok nv w' ∧ LRow w' o' base (X, 0) nv (l1 ++ l2) ∧ Step (Only X) W o w' o' ∧ W.grownBy w' v.ownBlock ∧ (∀ k, o' k = o k ∨ (W.heap.size ≤ k ∧ o' k = (X, 0))) := by
  obtain ⟨cs, h1, ht, h3, h4⟩ := h
  obtain ⟨g, cap, w', hrun, hown, hgrow, hat, hlt⟩ := run_append_row (P := Try.prog) W 93 93 113 Try.underlying93 inf113 rfl (by omega) hbase v l1.length cs h1 sb soff l2.length c cs2 (by rw [h2.1]; omega) hr h2.one hpos (by omega) (by omega)
  have hs : Step (Only X) W o w' (tagAt o g (X, 0)) := (Step.refl (Only X) W o).grown hgrow (fun k hk => .inl (by show (o k).1 = X; rw [ht k hk])) g (X, 0) (by
    rcases hat with hat | hat
    · exact .inl (ht g hat)
    · exact .inr (by omega))
  have h0 : ¬ Only X 0 := fun h => hX h.symm
  refine ⟨_, w', _, hrun, ⟨cs ++ cs2, by rw [List.length_append]; exact hown, fun k hk => ?_, (h3.append h2).step hs h0, fun u hu => ?_⟩, hs, hgrow, fun k => ?_⟩
  · simp only [Value.ownBlock, Option.some.injEq] at hk; subst hk; exact tagAt_same _ _ _
  · rcases List.mem_append.1 hu with hu | hu
    · exact h4 u hu
    · exact hf u hu
  · by_cases hkg : k = g
    · subst hkg
      rw [tagAt_same]
      rcases hat with hat | hat
      · exact .inl (ht k hat).symm
      · exact .inr ⟨by omega, rfl⟩
    · exact .inl (tagAt_other _ _ hkg)
theorem buildSlice93 (w : World) (e : Int) (bv : Value) : (Instr.buildSlice 93 1 #[(0, .agg #[.int .u64 e, bv])]).run Try.prog w = .ok (.slice (some ⟨w.heap.size, 0, none⟩) 1 1) (w.alloc (.cells [.int .u64 e, bv].toArray 113)) :=
  run_buildSlice_one w 93 113 [.int .u64 0, .slice none 0 0] (.agg #[.int .u64 e, bv]) [.int .u64 e, bv] Try.underlying93 (by kernel_rfl) rfl (by simp) (by simp) rfl
set_option maxRecDepth 100000 in
set_option maxHeartbeats 3200000 in
theorem rread_lines {w : World} {o : Own} {Z p X : Nat} {m : RdM} (h : RdAt w o Z p m) (hZ : Z ≠ 0) (hX : X ≠ 0) (hXZ : X ≠ Z) (hm : m.b.length ≤ 1000000) :
    Calls Try.prog 130 #[.pointer (some ⟨p, 0, none⟩)] w (Ret (Only Z) w o fun v w' o' => LRow w' o' w.heap.size (X, 0) v m.lines.1 ∧ RdAt w' o' Z p m.lines.2) := by
  have hc := hidden (rcount_any h hZ hm 256 (by omega))
  have hcl := RdM.count_len 256 m
  unfold RdM.lines
  generalize (m.count 256).1 = N at *
  generalize (m.count 256).2 = mc at *
  have hmc : mc.b.length ≤ 1000000 := by omega
  have hNI : (0 : Int) ≤ (N : Int) ∧ (N : Int) ≤ 256 := by omega
  clear h hcl hm
  go_enter Try.func130, Try.ntmps130
  go_wp2_with fail
  refine hc.out.mono ?_; rintro e w1 ⟨v1, o1, rfl, hs, rfl, hr⟩
  have hcH := hidden hmc
  clear hc hmc
  go_wp2_with fail
  go_loopw [3, 6] (fun out i wr => ∃ (k : Nat) (oj : Own), k ≤ N ∧ i = .int .i64 k ∧ LRow wr oj w.heap.size (X, 0) out (readK k mc).1 ∧ RdAt wr oj Z p (readK k mc).2 ∧ Step (Only Z) w o wr oj) (fun _ i _ => N - (intOf i).toNat)
  case atStart => exact ⟨0, o1, by omega, rfl, LRow.nil _ _ _ _, hr, hs⟩
  case round =>
    clear hr hs
    obtain ⟨k, oj, hk, rfl, hrow, hrd, hst⟩ := hrel
    obtain ⟨hlk, hln⟩ := readK_len k mc
    by_cases hlt : k < N
    · have hu := hidden (ruint_any hrd hZ (by have := hcH.out; omega))
      have hlm : ((readK k mc).2.num 8).2.b.length ≤ 1000000 := by have := RdM.num_len 8 (readK k mc).2; have := hcH.out; omega
      have hsn : readK (k + 1) mc = ((readK k mc).1 ++ [⟨((readK k mc).2.num 8).1, ((readK k mc).2.num 8).2.text.1⟩], ((readK k mc).2.num 8).2.text.2) := rfl
      have hsnH := hidden hsn
      have hrowH := hidden hrow
      have hlmH := hidden hlm
      have hlnH := hidden hln
      obtain ⟨E, hE⟩ : ∃ E, ((readK k mc).2.num 8).1 = E := ⟨_, rfl⟩
      rw [hE] at hu hsnH
      generalize ((readK k mc).2.num 8).2 = m8 at *
      obtain ⟨ra, rc, rfl⟩ := hrow.form
      rw [hln] at hrowH ⊢
      clear hrd hsn hlm hrow hln hlk hE
      go_wp2_with fail
      refine hu.out.mono ?_; rintro e w2 ⟨v2, o2, rfl, hs2, rfl, hr2⟩
      have hst2 := hst.trans hs2
      have hrow2 := hrowH.out.step hs2 (fun h => hXZ h) (fun h => hZ h.symm)
      have ht := hidden (rtext_any hr2 hZ hlmH.out)
      clear hu hr2 hs2 hst
      go_wp2_with fail
      refine ht.out.mono ?_; rintro e w3 ⟨v3, o3, rfl, hs3, ⟨hb3, hf3⟩, hr3⟩
      have hst3 := hst2.trans hs3
      have hrow3 := hrow2.step hs3 (fun h => hXZ h) (fun h => hZ h.symm)
      have hbs := hidden (buildSlice93 w3 (E.toNat : Int) v3)
      have hsa := (Step.refl Nobody w3 o3).alloc (.cells [.int .u64 (E.toNat : Int), v3].toArray 113) (0, 0)
      have hnb : (w3.alloc (.cells [.int .u64 (E.toNat : Int), v3].toArray 113)).heap[w3.heap.size]? = some (.cells [.int .u64 (E.toNat : Int), v3].toArray 113 (0, 0)) := heap_alloc_new w3 _
      obtain ⟨w4, hw4⟩ : ∃ w4, w3.alloc (.cells [.int .u64 (E.toNat : Int), v3].toArray 113) = w4 := ⟨_, rfl⟩
      rw [hw4] at hbs hsa hnb
      have hsz : w.heap.size ≤ w4.heap.size := Nat.le_trans hst3.size hsa.size
      obtain ⟨nv, w5, o5, hrun, hrow5, hs5, hgr, ho5⟩ := (hrow3.step hsa (fun h => h) (fun h => h)).append hX hsz (range_whole hnb) (LnC.single ⟨E, m8.text.1⟩ (hb3.step hsa (fun h => h))) (fun u hu => by
        simp only [List.mem_cons, List.not_mem_nil, or_false] at hu
        rcases hu with rfl | rfl
        · exact Fresh.int _ _ _
        · exact hf3.low hst2.size) (by simp) (by rw [hlnH.out, List.length_singleton]; omega) (c := 1)
      simp only [List.length_singleton] at hrun
      have hrunH := hidden hrun
      have hrd5 := (hr3.step hsa (fun h => h) (fun h => h)).step hs5 (fun h => hXZ h.symm) (fun h => hX h.symm)
      have hst5 : Step (Only Z) w o w5 o5 := by
        have hst4 := hst3.trans (hsa.only Z)
        refine ⟨hgr.os.trans hst4.os, hgr.tape.trans hst4.tape, hgr.output.trans hst4.output, Nat.le_trans hst4.size hgr.size, fun k hk => ?_, fun k hk hT => ?_⟩
        · rcases ho5 k with h | ⟨h, _⟩
          · rw [h]; exact hst4.own k hk
          · have := hst4.size; omega
        · rw [hgr.block k (Nat.lt_of_lt_of_le hk hst4.size) ?_]
          · exact hst4.block k hk hT
          · intro hx
            obtain ⟨cs, q1, -⟩ := hrow3
            have := (q1.lt k hx.symm).1
            omega
      obtain ⟨na, nc, rfl⟩ := hrow5.form
      have hF := hidden (show LRow w5 o5 w.heap.size (X, 0) _ (readK (k + 1) mc).1 ∧ RdAt w5 o5 Z p (readK (k + 1) mc).2 from by rw [hsnH.out]; exact ⟨hrow5, hrd5⟩)
      have hl1 : ((readK k mc).1 ++ ([⟨E, m8.text.1⟩] : List LineM)).length = k + 1 := by rw [List.length_append, hlnH.out]; rfl
      rw [hl1] at hrunH hF
      obtain ⟨ba, bc, rfl⟩ := slc_form hb3
      clear hrun hrow5 hrd5 hs5 hgr ho5 hsa hnb hw4 hrow3 hrow2 hst2 hst3 hs3 hb3 hf3 hr3 ht hsz hl1
      go_wp2_with (first
        | ((with_reducible apply lit_buildSlice #[(0, .agg #[.int .u64 (E.toNat : Int), .slice ba m8.text.1.length bc])] rfl); exact hbs.out; simp only [Act.put, List.setIfInBounds_toArray, List.set_cons_zero, List.set_cons_succ])
        | ((with_reducible apply lit_append); exact hrunH.out; simp only [Act.put, List.setIfInBounds_toArray, List.set_cons_zero, List.set_cons_succ]))
      go_roundw
      case rel => exact ⟨k + 1, o5, by omega, by go_num, hF.out.1, hF.out.2, hst5⟩
      case measure => simp [intOf]; omega
    · obtain rfl : N = k := by omega
      obtain ⟨ra, rc, rfl⟩ := hrow.form
      rw [hln] at hrow ⊢
      go_wp2_with fail
      go_ret
      exact ⟨_, oj, rfl, hst, hrow, hrd⟩
end Go.Proofs.YtfgggkheadfiaaaR
/- Contracts: what a record does to what is kept (the three method expressions); must. -/
namespace Go.Proofs.YtfgggkheadfiaaaR
open Go Go.RowKit
attribute [local go_sem ↓] Go.wp_at_zero Go.wp_at_succ

def KeptM.recPromise (k : KeptM) (m : RdM) : KeptM × RdM := ({ k with promised := (m.num 8).1 }, (m.num 8).2)
def KeptM.recAdopt (_k : KeptM) (m : RdM) : KeptM × RdM := (⟨(m.num 8).1, (m.num 8).1, (m.num 8).2.lines.1⟩, (m.num 8).2.lines.2)
def KeptM.recAppend (k : KeptM) (m : RdM) : KeptM × RdM := ({ k with lines := k.lines ++ m.lines.1 }, m.lines.2)
/-- What is kept lies in a variable of its own at block kb; its row of lines bears the tag X. -/
def KpAt (w : World) (o : Own) (K X kb base : Nat) (k : KeptM) : Prop :=
  ∃ lv, w.heap[kb]? = some (.cells #[.int .u64 (k.promised.toNat : Int), .int .u64 (k.current.toNat : Int), lv] 108 (0, 0)) ∧ o kb = (K, 0) ∧ LRow w o base (X, 0) lv k.lines
theorem KpAt.step {T : Nat → Prop} {w w' : World} {o o' : Own} {K X kb base : Nat} {k : KeptM} (h : KpAt w o K X kb base k) (s : Step T w o w' o') (hK : ¬ T K) (hX : ¬ T X) (h0 : ¬ T 0) : KpAt w' o' K X kb base k := by
  obtain ⟨lv, h1, h2, h3⟩ := h
  have hl := lt_of_block h1
  exact ⟨lv, by rw [s.block kb hl (by rw [h2]; exact hK)]; exact h1, by rw [s.own kb hl]; exact h2, h3.step s hX h0⟩
/-- The tags of a replay: K and X for what is kept, Z for the reader. -/
structure Tg (K X Z : Nat) : Prop where
  k0 : K ≠ 0
  x0 : X ≠ 0
  z0 : Z ≠ 0
  kx : K ≠ X
  kz : K ≠ Z
  xz : X ≠ Z
def In3 (K X Z : Nat) : Nat → Prop := fun t => t = K ∨ t = X ∨ t = Z
theorem RdM.lines_len (m : RdM) : m.lines.2.b.length ≤ m.b.length ∧ m.lines.1.length ≤ 256 := by
  unfold RdM.lines
  have h1 := RdM.count_len 256 m
  have h2 := readK_len (m.count 256).1 (m.count 256).2
  omega
section
variable {w : World} {o : Own} {K X Z kb p base : Nat} {k : KeptM} {m : RdM}
set_option maxRecDepth 100000 in
set_option maxHeartbeats 1600000 in
theorem rpromise_any (ht : Tg K X Z) (h : KpAt w o K X kb base k) (hr : RdAt w o Z p m) (hm : m.b.length ≤ 1000000) :
    Calls Try.prog 124 #[.pointer (some ⟨kb, 0, none⟩), .pointer (some ⟨p, 0, none⟩)] w (Ret (In3 K X Z) w o fun v w' o' => v = .tuple #[] ∧ KpAt w' o' K X kb base (k.recPromise m).1 ∧ RdAt w' o' Z p (k.recPromise m).2) := by
  have hu := hidden (ruint_any hr ht.z0 hm)
  have hH := hidden h
  have htH := hidden ht
  unfold KeptM.recPromise
  generalize (m.num 8).1 = E at *
  generalize (m.num 8).2 = m8 at *
  clear h ht hr
  go_enter Try.func124, Try.ntmps124
  go_wp2_with fail
  refine hu.out.mono ?_; rintro e w1 ⟨v1, o1, rfl, hs, rfl, hr1⟩
  have ht := htH.out
  obtain ⟨lv, h1, h2, h3⟩ := hH.out.step hs (fun h => ht.kz h) (fun h => ht.xz h) (fun h => ht.z0 h.symm)
  have c0 : w1.cell? ⟨kb, 0, none⟩ = some (.int .u64 (k.promised.toNat : Int)) := cell_of_block (cs := [_, _, _]) h1 0
  have f0 : w1.frozen? ⟨kb, 0, none⟩ = false := free_of_block (cs := [_, _, _]) h1 0
  have hset := (Step.refl (Only K) w1 o1).setCell (a := ⟨kb, 0, none⟩) (.int .u64 (E.toNat : Int)) (.inl (by show (o1 kb).1 = K; rw [h2]))
  have hF := hidden (show KpAt (w1.setCell ⟨kb, 0, none⟩ (.int .u64 (E.toNat : Int))) o1 K X kb base { k with promised := E } ∧ RdAt (w1.setCell ⟨kb, 0, none⟩ (.int .u64 (E.toNat : Int))) o1 Z p m8 from
    ⟨⟨lv, heap_setCell_at (cs := [_, _, _]) (i := 0) _ h1, h2, h3.step hset (fun h => ht.kx h.symm) (fun h => ht.k0 h.symm)⟩, hr1.step hset (fun h => ht.kz h.symm) (fun h => ht.k0 h.symm)⟩)
  have hst := hidden ((hs.mono (T' := In3 K X Z) (fun _ h => .inr (.inr h))).trans (hset.mono (fun _ h => .inl h)))
  clear h1 h2 h3 hset hs hr1 ht hu
  go_wp2_with fail
  first | go_end0 | refine bodyPost_ret (results_none rfl _ _ _) rfl ?_
  exact ⟨_, o1, rfl, hst.out, rfl, hF.out.1, hF.out.2⟩
set_option maxRecDepth 100000 in
set_option maxHeartbeats 3200000 in
theorem radopt_any (ht : Tg K X Z) (h : KpAt w o K X kb base k) (hr : RdAt w o Z p m) (hm : m.b.length ≤ 1000000) (hbase : base ≤ w.heap.size) :
    Calls Try.prog 125 #[.pointer (some ⟨kb, 0, none⟩), .pointer (some ⟨p, 0, none⟩)] w (Ret (In3 K X Z) w o fun v w' o' => v = .tuple #[] ∧ KpAt w' o' K X kb base (k.recAdopt m).1 ∧ RdAt w' o' Z p (k.recAdopt m).2) := by
  have hu := hidden (ruint_any hr ht.z0 hm)
  have hH := hidden h
  have htH := hidden ht
  have hm8 := RdM.num_len 8 m
  unfold KeptM.recAdopt
  generalize (m.num 8).1 = E at *
  generalize (m.num 8).2 = m8 at *
  have hmH := hidden (show m8.b.length ≤ 1000000 by omega)
  clear h ht hr hm8
  go_enter Try.func125, Try.ntmps125
  go_wp2_with fail
  refine hu.out.mono ?_; rintro e w1 ⟨v1, o1, rfl, hs, rfl, hr1⟩
  have ht := htH.out
  obtain ⟨lv, h1, h2, h3⟩ := hH.out.step hs (fun h => ht.kz h) (fun h => ht.xz h) (fun h => ht.z0 h.symm)
  have c0 : w1.cell? ⟨kb, 0, none⟩ = some (.int .u64 (k.promised.toNat : Int)) := cell_of_block (cs := [_, _, _]) h1 0
  have f0 : w1.frozen? ⟨kb, 0, none⟩ = false := free_of_block (cs := [_, _, _]) h1 0
  have hset := (Step.refl (Only K) w1 o1).setCell (a := ⟨kb, 0, none⟩) (.int .u64 (E.toNat : Int)) (.inl (by show (o1 kb).1 = K; rw [h2]))
  have h1' := heap_setCell_at (cs := [_, _, _]) (i := 0) (.int .u64 (E.toNat : Int)) h1
  have hr2 := hr1.step hset (fun h => ht.kz h.symm) (fun h => ht.k0 h.symm)
  have hst := hidden ((hs.mono (T' := In3 K X Z) (fun _ h => .inr (.inr h))).trans (hset.mono (fun _ h => .inl h)))
  obtain ⟨w2, hw2⟩ : ∃ w2, w1.setCell ⟨kb, 0, none⟩ (.int .u64 (E.toNat : Int)) = w2 := ⟨_, rfl⟩
  rw [hw2] at h1' hr2 hst
  have hw2H := hidden hw2
  have hz2 : w.heap.size ≤ w2.heap.size := hst.out.size
  have hrl := hidden (fun (W : World) (O : Own) (st : Step Nobody w2 o1 W O) => rread_lines (X := X) (hr2.step st (fun h => h) (fun h => h)) ht.z0 ht.x0 ht.xz hmH.out)
  have h2H := hidden h2
  have h1H := hidden h1'
  have hS := hidden (show w2.cell? ⟨kb, 0, none⟩ = some (.int .u64 (E.toNat : Int)) from cell_of_block (cs := [_, _, _]) h1' 0)
  clear h1 h2 h3 hset hs hr1 hr2 hw2 hu h1' ht hH
  go_wp2_with fail
  rw [hw2H.out]
  refine wp_region_need (fun w' => w'.cell? ⟨kb, 0, none⟩ = some (.int .u64 (E.toNat : Int))) (fun _ => true) (by kernel_rfl) hS.out (fun hHeld => ?_)
  refine wpAnyN_tk (i := 0) (v := ?_) rfl (by kernel_rfl) (fun _ _ _ h => h) (Or.inl ⟨by rfl, ?_⟩) (by assumption) ?_
  rotate_left
  · intro w hSw; ((try dsimp only at hSw); go_simp; (try with_reducible rfl))
  simp only [Act.put, List.setIfInBounds_toArray, List.set_cons_zero, List.set_cons_succ]
  refine wpAnyN_tk (i := 1) (v := ?_) rfl (by kernel_rfl) (fun _ _ _ h => h) (Or.inl ⟨by rfl, ?_⟩) (by assumption) ?_
  rotate_left
  · intro w hSw; ((try dsimp only at hSw); go_simp; (try with_reducible rfl))
  simp only [Act.put, List.setIfInBounds_toArray, List.set_cons_zero, List.set_cons_succ]
  refine wpAnyN_tk (i := 2) (v := ?_) rfl (by kernel_rfl) (fun _ _ _ h => h) (Or.inl ⟨by rfl, ?_⟩) (by assumption) ?_
  rotate_left
  · intro w hSw; ((try dsimp only at hSw); go_simp; (try with_reducible rfl))
  simp only [Act.put, List.setIfInBounds_toArray, List.set_cons_zero, List.set_cons_succ]
  refine wpAnyN_tk (i := 3) (v := ?_) rfl (by kernel_rfl) (fun _ _ _ h => h) (Or.inl ⟨by rfl, ?_⟩) (by assumption) ?_
  rotate_left
  · intro w hSw; ((try dsimp only at hSw); go_simp; (try with_reducible rfl))
  simp only [Act.put, List.setIfInBounds_toArray, List.set_cons_zero, List.set_cons_succ]
  refine wpAnyN_tk (i := 4) (v := ?_) rfl (by kernel_rfl) (fun _ _ _ h => h) (Or.inl ⟨by rfl, ?_⟩) (by assumption) ?_
  rotate_left
  · intro w hSw; ((try dsimp only at hSw); go_simp; (try with_reducible rfl))
  simp only [Act.put, List.setIfInBounds_toArray, List.set_cons_zero, List.set_cons_succ]
  refine wpAnyN_tk (i := 5) (v := ?_) rfl (by kernel_rfl) (fun _ _ _ h => h) (Or.inl ⟨by rfl, ?_⟩) (by assumption) ?_
  rotate_left
  · intro w hSw; ((try dsimp only at hSw); go_simp; (try with_reducible rfl))
  simp only [Act.put, List.setIfInBounds_toArray, List.set_cons_zero, List.set_cons_succ]
  refine wpAnyN_tk (i := 6) (v := ?_) rfl (by kernel_rfl) (fun _ _ _ h => h) (Or.inl ⟨by rfl, ?_⟩) (by assumption) ?_
  rotate_left
  · intro w hSw; ((try dsimp only at hSw); go_simp; (try with_reducible rfl))
  simp only [Act.put, List.setIfInBounds_toArray, List.set_cons_zero, List.set_cons_succ]
  refine wpAnyN_one (i := 7) rfl (by kernel_rfl) ?_
  go_wp2_with fail
  have hdr := (Step.refl Nobody w2 o1).drew
  refine (hrl.out _ _ hdr).mono ?_; rintro e w3 ⟨v3, o3, rfl, hs3, hrow3, hr3⟩
  have hs3 : Step (Only Z) w2 o1 w3 o3 := (hdr.only Z).trans hs3
  have ht := htH.out
  have h13 := (hs3.block kb (lt_of_block h1H.out) (by rw [h2H.out]; exact fun h => ht.kz h)).trans h1H.out
  have h23 := (hs3.own kb (lt_of_block h1H.out)).trans h2H.out
  obtain ⟨ra, rc, rfl⟩ := hrow3.form
  have hS3 : w3.cell? ⟨kb, 0, none⟩ = some (.int .u64 (E.toNat : Int)) := cell_of_block (cs := [_, _, _]) h13 0
  have f31 : w3.frozen? ⟨kb, 1, none⟩ = false := free_of_block (cs := [_, _, _]) h13 1
  have f32 : w3.frozen? ⟨kb, 2, none⟩ = false := free_of_block (cs := [_, _, _]) h13 2
  have c31 : w3.cell? ⟨kb, 1, none⟩ = some (.int .u64 (k.current.toNat : Int)) := cell_of_block (cs := [_, _, _]) h13 1
  have c32 : w3.cell? ⟨kb, 2, none⟩ = some lv := cell_of_block (cs := [_, _, _]) h13 2
  have g1 := (Step.refl (Only K) w3 o3).setCell (a := ⟨kb, 1, none⟩) (.int .u64 (E.toNat : Int)) (.inl (by show (o3 kb).1 = K; rw [h23]))
  have g2 := g1.setCell (a := ⟨kb, 2, none⟩) (.slice ra m8.lines.1.length rc) (.inl (by show (o3 kb).1 = K; rw [h23]))
  have k1 := heap_setCell_at (cs := [_, _, _]) (i := 2) (.slice ra m8.lines.1.length rc) (heap_setCell_at (cs := [_, _, _]) (i := 1) (.int .u64 (E.toNat : Int)) h13)
  have hlow : LRow w3 o3 base (X, 0) (.slice ra m8.lines.1.length rc) m8.lines.1 := by
    obtain ⟨cs, q1, q2, q3, q4⟩ := hrow3
    have hb : base ≤ (w2.drew).heap.size := Nat.le_trans hbase hz2
    exact ⟨cs, ownsRow_low q1 hb, q2, q3, fun u hu => (q4 u hu).low hb⟩
  have hF := hidden (show KpAt ((w3.setCell ⟨kb, 1, none⟩ (.int .u64 (E.toNat : Int))).setCell ⟨kb, 2, none⟩ (.slice ra m8.lines.1.length rc)) o3 K X kb base ⟨E, E, m8.lines.1⟩ ∧ RdAt ((w3.setCell ⟨kb, 1, none⟩ (.int .u64 (E.toNat : Int))).setCell ⟨kb, 2, none⟩ (.slice ra m8.lines.1.length rc)) o3 Z p m8.lines.2 from
    ⟨⟨_, k1, h23, hlow.step g2 (fun h => ht.kx h.symm) (fun h => ht.k0 h.symm)⟩, hr3.step g2 (fun h => ht.kz h.symm) (fun h => ht.k0 h.symm)⟩)
  have hstF := hidden ((hst.out.trans (hs3.mono (fun _ h => .inr (.inr h)))).trans (g2.mono (fun _ h => .inl h)))
  clear hs3 hrow3 hr3 g1 g2 k1 hlow ht hrl h13 hHeld
  go_wp2_with fail
  refine ⟨fun _ => hS3, ?_⟩
  refine wpAnyN_tk (i := 8) (v := ?_) rfl (by kernel_rfl) (fun _ _ _ h => h) (Or.inl ⟨by rfl, ?_⟩) (by assumption) ?_
  rotate_left
  · intro w hSw; ((try dsimp only at hSw); go_simp; (try with_reducible rfl))
  simp only [Act.put, List.setIfInBounds_toArray, List.set_cons_zero, List.set_cons_succ]
  refine wpAnyN_tk (i := 9) (v := ?_) rfl (by kernel_rfl) (fun _ _ _ h => h) (Or.inl ⟨by rfl, ?_⟩) (by assumption) ?_
  rotate_left
  · intro w hSw; ((try dsimp only at hSw); go_simp; (try with_reducible rfl))
  simp only [Act.put, List.setIfInBounds_toArray, List.set_cons_zero, List.set_cons_succ]
  refine wpAnyN_one (i := 10) rfl (by kernel_rfl) ?_
  have hS10 : (w3.setCell ⟨kb, 1, none⟩ (.int .u64 (E.toNat : Int))).cell? ⟨kb, 0, none⟩ = some (.int .u64 (E.toNat : Int)) := by rw [World.cell?_setCell_other _ _ _ _ (by simp)]; exact hS3
  go_wp2_with fail
  refine ⟨fun _ => hS10, ?_⟩
  refine wpAnyN_tk (i := 11) (v := ?_) rfl (by kernel_rfl) (fun _ _ _ h => h) (Or.inl ⟨by rfl, ?_⟩) (by assumption) ?_
  rotate_left
  · intro w hSw; ((try dsimp only at hSw); go_simp; (try with_reducible rfl))
  simp only [Act.put, List.setIfInBounds_toArray, List.set_cons_zero, List.set_cons_succ]
  refine wpAnyN_tk (i := 12) (v := ?_) rfl (by kernel_rfl) (fun _ _ _ h => h) (Or.inl ⟨by rfl, ?_⟩) (by assumption) ?_
  rotate_left
  · intro w hSw; ((try dsimp only at hSw); go_simp; (try with_reducible rfl))
  simp only [Act.put, List.setIfInBounds_toArray, List.set_cons_zero, List.set_cons_succ]
  refine wpAnyN_one (i := 13) rfl (by kernel_rfl) ?_
  have hS13 : ((w3.setCell ⟨kb, 1, none⟩ (.int .u64 (E.toNat : Int))).setCell ⟨kb, 2, none⟩ (.slice ra m8.lines.1.length rc)).cell? ⟨kb, 0, none⟩ = some (.int .u64 (E.toNat : Int)) := by rw [World.cell?_setCell_other _ _ _ _ (by simp)]; exact hS10
  go_wp2_with fail
  refine ⟨fun _ => hS13, ?_⟩
  refine wpAnyN_done (by kernel_rfl) ?_ _
  go_wp2_with fail
  first | go_end0 | refine bodyPost_ret (results_none rfl _ _ _) rfl ?_
  exact ⟨_, o3, rfl, hstF.out, rfl, hF.out.1, hF.out.2⟩
theorem LRow.source {w : World} {o : Own} {base : Nat} {t : Nat × Nat} {v : Value} {ls : List LineM} (h : LRow w o base t v ls) (h0 : 0 < ls.length) :
    ∃ g c cs, v = .slice (some ⟨g, 0, none⟩) ls.length c ∧ w.rangeAt g 0 cs ∧ LnC w o cs ls ∧ (∀ u ∈ cs, Fresh base u) := by
  obtain ⟨cs, h1, h2, h3, h4⟩ := h
  rcases h1.2 with ⟨_, h⟩ | ⟨g, cap, cur, rfl, q1, q2, q3, q4, q5, q6⟩
  · omega
  · refine ⟨g, cap, cs, rfl, ?_, h3, h4⟩
    have := range_of_block (w := w) (b := g) (cs := cur.toList) (E := 113) (fr := (0, 0)) (by simpa using q2) 0 (ls.length * 2)
    rw [List.drop_zero, q6] at this; exact this
theorem LRow.capOk {w : World} {o : Own} {base n c : Nat} {a : Option Addr} {t : Nat × Nat} {ls : List LineM} (h : LRow w o base t (.slice a n c) ls) : n ≤ c ∧ n = ls.length := by
  obtain ⟨cs, h1, h2, h3, h4⟩ := h
  rcases h1.2 with ⟨h, h0⟩ | ⟨g, cap, cur, h, q1, q2, q3, q4, q5, q6⟩
  · cases h; omega
  · cases h; omega
/-- append(k.Lines, read..). -/
theorem LRow.appendRow {W : World} {o : Own} {base b2 X : Nat} {t2 : Nat × Nat} {v v2 : Value} {l1 l2 : List LineM} (h : LRow W o base (X, 0) v l1) (hX : X ≠ 0) (hbase : base ≤ W.heap.size) (h2 : LRow W o b2 t2 v2 l2) (hb2 : base ≤ b2) (hn : l1.length + l2.length ≤ 100000) :
    ∃ nv w' o', (Builtin.append_ #[93, 93] 93 #[v, v2]).run Try.prog W = .ok nv w' ∧ LRow w' o' base (X, 0) nv (l1 ++ l2) ∧ Step (Only X) W o w' o' := by
  by_cases h0 : l2.length = 0
  · have e := List.eq_nil_of_length_eq_zero h0
    subst e
    obtain ⟨a, c, rfl⟩ := h.form
    obtain ⟨a2, c2, rfl⟩ := h2.form
    have := h.capOk.1
    refine ⟨_, W, o, run_append_none (P := Try.prog) W 93 93 113 2 Try.underlying93 (by kernel_rfl) a a2 l1.length c c2 this (by simp at hn; omega), by rw [List.append_nil]; exact h, Step.refl _ _ _⟩
  · obtain ⟨g, c, cs, rfl, q1, q2, q3⟩ := h2.source (by omega)
    obtain ⟨nv, w', o', a1, a2, a3, -, -⟩ := h.append hX hbase q1 q2 (fun u hu => (q3 u hu).low hb2) (by omega) hn (c := c)
    exact ⟨nv, w', o', a1, a2, a3⟩
set_option maxRecDepth 100000 in
set_option maxHeartbeats 3200000 in
theorem rappend_any (ht : Tg K X Z) (h : KpAt w o K X kb base k) (hr : RdAt w o Z p m) (hm : m.b.length ≤ 1000000) (hbase : base ≤ w.heap.size) (hk : k.lines.length ≤ 90000) :
    Calls Try.prog 126 #[.pointer (some ⟨kb, 0, none⟩), .pointer (some ⟨p, 0, none⟩)] w (Ret (In3 K X Z) w o fun v w' o' => v = .tuple #[] ∧ KpAt w' o' K X kb base (k.recAppend m).1 ∧ RdAt w' o' Z p (k.recAppend m).2) := by
  obtain ⟨lv, h1, h2, h3⟩ := h
  obtain ⟨Y, hY⟩ : ∃ Y, Y = K + X + Z + 1 := ⟨_, rfl⟩
  have hY0 : Y ≠ 0 := by omega
  have hYZ : Y ≠ Z := by omega
  have hrl := hidden (fun (W : World) (O : Own) (st : Step Nobody w o W O) => rread_lines (X := Y) (hr.step st (fun h => h) (fun h => h)) ht.z0 hY0 hYZ hm)
  have hll := m.lines_len.2
  have c2 : w.cell? ⟨kb, 2, none⟩ = some lv := cell_of_block (cs := [_, _, _]) h1 2
  have htH := hidden ht
  have hH := hidden (And.intro h1 (And.intro h2 h3))
  have hkb := lt_of_block h1
  obtain ⟨ka, kc, rfl⟩ := h3.form
  unfold KeptM.recAppend
  generalize m.lines.1 = LL at *
  generalize m.lines.2 = mL at *
  clear h1 h2 h3 hr ht
  go_enter Try.func126, Try.ntmps126
  go_wp2_with fail
  refine wp_region_need (fun w' => w'.cell? ⟨kb, 2, none⟩ = some (.slice ka k.lines.length kc)) (fun i => decide (i < 10)) (by kernel_rfl) c2 (fun hHeld => ?_)
  refine wpAnyN_tk (i := 0) (v := ?_) rfl (by kernel_rfl) (fun _ _ _ h => h) (Or.inl ⟨by rfl, ?_⟩) (by assumption) ?_
  rotate_left
  · intro w hSw; ((try dsimp only at hSw); go_simp; (try with_reducible rfl))
  simp only [Act.put, List.setIfInBounds_toArray, List.set_cons_zero, List.set_cons_succ]
  refine wpAnyN_tk (i := 1) (v := ?_) rfl (by kernel_rfl) (fun _ _ _ h => h) (Or.inl ⟨by rfl, ?_⟩) (by assumption) ?_
  rotate_left
  · intro w hSw; ((try dsimp only at hSw); go_simp; (try with_reducible rfl))
  simp only [Act.put, List.setIfInBounds_toArray, List.set_cons_zero, List.set_cons_succ]
  refine wpAnyN_tk (i := 2) (v := ?_) rfl (by kernel_rfl) (fun _ _ _ h => h) (Or.inl ⟨by rfl, ?_⟩) (by assumption) ?_
  rotate_left
  · intro w hSw; ((try dsimp only at hSw); go_simp; (try with_reducible rfl))
  simp only [Act.put, List.setIfInBounds_toArray, List.set_cons_zero, List.set_cons_succ]
  refine wpAnyN_tk (i := 3) (v := ?_) rfl (by kernel_rfl) (fun _ _ _ h => h) (Or.inl ⟨by rfl, ?_⟩) (by assumption) ?_
  rotate_left
  · intro w hSw; ((try dsimp only at hSw); go_simp; (try with_reducible rfl))
  simp only [Act.put, List.setIfInBounds_toArray, List.set_cons_zero, List.set_cons_succ]
  refine wpAnyN_tk (i := 4) (v := ?_) rfl (by kernel_rfl) (fun _ _ _ h => h) (Or.inl ⟨by rfl, ?_⟩) (by assumption) ?_
  rotate_left
  · intro w hSw; ((try dsimp only at hSw); go_simp; (try with_reducible rfl))
  simp only [Act.put, List.setIfInBounds_toArray, List.set_cons_zero, List.set_cons_succ]
  refine wpAnyN_tk (i := 5) (v := ?_) rfl (by kernel_rfl) (fun _ _ _ h => h) (Or.inl ⟨by rfl, ?_⟩) (by assumption) ?_
  rotate_left
  · intro w hSw; ((try dsimp only at hSw); go_simp; (try with_reducible rfl))
  simp only [Act.put, List.setIfInBounds_toArray, List.set_cons_zero, List.set_cons_succ]
  refine wpAnyN_one (i := 6) rfl (by kernel_rfl) ?_
  go_wp2_with fail
  have hdr := (Step.refl Nobody w o).drew
  refine (hrl.out _ _ hdr).mono ?_; rintro e w3 ⟨v3, o3, rfl, hs3, hrow3, hr3⟩
  have hs3 : Step (Only Z) w o w3 o3 := (hdr.only Z).trans hs3
  have ht := htH.out
  obtain ⟨h1, h2, h3⟩ := hH.out
  have h13 := (hs3.block kb hkb (by rw [h2]; exact fun h => ht.kz h)).trans h1
  have h23 := (hs3.own kb hkb).trans h2
  have h33 := h3.step hs3 (fun h => ht.xz h) (fun h => ht.z0 h.symm)
  have hS3 : w3.cell? ⟨kb, 2, none⟩ = some (.slice ka k.lines.length kc) := cell_of_block (cs := [_, _, _]) h13 2
  have hz3 : base ≤ w3.heap.size := Nat.le_trans hbase hs3.size
  obtain ⟨nv, w4, o4, hrun, hrow4, hs4⟩ := h33.appendRow ht.x0 hz3 hrow3 (show base ≤ (w.drew).heap.size from hbase) (by omega)
  have hrunH := hidden hrun
  have h14 := (hs4.block kb (lt_of_block h13) (by rw [h23]; exact fun h => ht.kx h)).trans h13
  have h24 := (hs4.own kb (lt_of_block h13)).trans h23
  have hr4 := hr3.step hs4 (fun h => ht.xz h.symm) (fun h => ht.x0 h.symm)
  have hS4 : w4.cell? ⟨kb, 2, none⟩ = some (.slice ka k.lines.length kc) := cell_of_block (cs := [_, _, _]) h14 2
  have f4 : w4.frozen? ⟨kb, 2, none⟩ = false := free_of_block (cs := [_, _, _]) h14 2
  obtain ⟨ra, rc, rfl⟩ := hrow3.form
  obtain ⟨na, nc, rfl⟩ := hrow4.form
  have g2 := (Step.refl (Only K) w4 o4).setCell (a := ⟨kb, 2, none⟩) (.slice na (k.lines ++ LL).length nc) (.inl (by show (o4 kb).1 = K; rw [h24]))
  have k1 := heap_setCell_at (cs := [_, _, _]) (i := 2) (.slice na (k.lines ++ LL).length nc) h14
  have hF := hidden (show KpAt (w4.setCell ⟨kb, 2, none⟩ (.slice na (k.lines ++ LL).length nc)) o4 K X kb base { k with lines := k.lines ++ LL } ∧ RdAt (w4.setCell ⟨kb, 2, none⟩ (.slice na (k.lines ++ LL).length nc)) o4 Z p mL from
    ⟨⟨_, k1, h24, hrow4.step g2 (fun h => ht.kx h.symm) (fun h => ht.k0 h.symm)⟩, hr4.step g2 (fun h => ht.kz h.symm) (fun h => ht.k0 h.symm)⟩)
  have hstF := hidden ((((hs3.mono (T' := In3 K X Z) (fun _ h => .inr (.inr h)))).trans (hs4.mono (fun _ h => .inr (.inl h)))).trans (g2.mono (fun _ h => .inl h)))
  generalize (k.lines ++ LL).length = NL at *
  clear hs3 hrow3 hr3 hs4 hrow4 g2 k1 ht hrl h13 h14 h33 hr4 h1 h2 h3 hHeld hrun hdr
  go_wp2_with fail
  refine ⟨fun _ => hS3, ?_⟩
  refine wpAnyN_one (i := 7) rfl (by kernel_rfl) ?_
  refine lit_append hrunH.out ?_
  refine wpList_nil ?_
  simp only [Act.put, List.setIfInBounds_toArray, List.set_cons_zero, List.set_cons_succ]
  refine ⟨fun _ => hS4, ?_⟩
  refine wpAnyN_one (i := 8) rfl (by kernel_rfl) ?_
  go_wp2_with fail
  refine ⟨fun _ => hS4, ?_⟩
  refine wpAnyN_tk (i := 9) (v := ?_) rfl (by kernel_rfl) (fun _ _ _ h => h) (Or.inl ⟨by rfl, ?_⟩) (by assumption) ?_
  rotate_left
  · intro w hSw; ((try dsimp only at hSw); go_simp; (try with_reducible rfl))
  simp only [Act.put, List.setIfInBounds_toArray, List.set_cons_zero, List.set_cons_succ]
  refine wpAnyN_one (i := 10) rfl (by kernel_rfl) ?_
  go_wp2_with fail
  refine ⟨fun h => by simp at h, ?_⟩
  refine wpAnyN_done (by kernel_rfl) ?_ _
  clear hS4 hS3 hrunH
  go_wp2_with fail
  first | go_end0 | refine bodyPost_ret (results_none rfl _ _ _) rfl ?_
  exact ⟨_, o4, rfl, hstF.out, rfl, hF.out.1, hF.out.2⟩
set_option maxRecDepth 100000 in
theorem must_any (w : World) : Calls Try.prog 95 #[.bool true] w fun e w' => e = .returned (.tuple #[]) ∧ w = w' := by
  go_enter Try.func95, Try.ntmps95
  go_wp2
  first | go_end0 | refine bodyPost_ret (results_none rfl _ _ _) rfl ?_
  exact ⟨rfl, rfl⟩
end
end Go.Proofs.YtfgggkheadfiaaaR
