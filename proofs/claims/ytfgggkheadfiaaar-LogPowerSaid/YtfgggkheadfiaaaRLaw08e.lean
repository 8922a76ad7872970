/- The laws' own helpers of layer 8: Bytes, texts, equal. -/
import Derived.Test.YtfgggkheadfiaaaRLaw08a
namespace Go.Proofs.YtfgggkheadfiaaaR
open Go Go.RowKit
attribute [local go_sem ↓] Go.wp_at_zero Go.wp_at_succ

def fillM (b : UInt8) (m : Nat) : List UInt8 := (List.range m).map fun i => b + UInt8.ofNat (i / 7)
theorem length_fillM (b : UInt8) (m : Nat) : (fillM b m).length = m := by simp [fillM]
theorem get_fillM (b : UInt8) (m i : Nat) (h : i < m) : (fillM b m)[i]? = some (b + UInt8.ofNat (i / 7)) := by simp [fillM, h]
theorem fillM_step (b : UInt8) (m k : Nat) (h : k < m) : ((fillM b m).take k ++ List.replicate (m - k) 0).set k (b + UInt8.ofNat (k / 7)) = (fillM b m).take (k + 1) ++ List.replicate (m - (k + 1)) 0 := by
  have h1 : ((fillM b m).take k).length = k := by rw [List.length_take, length_fillM]; omega
  rw [List.set_append_right _ _ (by omega), h1, Nat.sub_self, show m - k = (m - (k + 1)) + 1 from by omega, List.replicate_succ, List.set_cons_zero, List.take_add_one, get_fillM b m k h]
  simp
theorem own_slc {w : World} {o : Own} {b e : Nat} {v : Value} {n : Nat} {xs : List Value} (h : w.ownsRow b e 1 v n xs) (ho : ∀ k, v.ownBlock = some k → (o k).1 = 0) : Slc w o v n xs := by
  rcases h.2 with ⟨rfl, h0⟩ | ⟨g, cap, cur, rfl, h1, h2, h3, h4, h5, h6⟩
  · subst h0; exact .inl ⟨⟨_, _, rfl⟩, rfl, List.eq_nil_of_length_eq_zero h.1⟩
  · refine .inr ⟨g, 0, cap, rfl, h3, h4, ho g rfl, lt_of_block h2, ?_⟩
    have : w.rangeAt g 0 ((cur.toList.drop 0).take n) := range_of_block (w := w) (b := g) (cs := cur.toList) (E := e) (fr := (0, 0)) (by simpa using h2) 0 n
    rw [List.drop_zero] at this
    rw [Nat.mul_one] at h6
    rwa [h6] at this
set_option maxRecDepth 100000 in
set_option maxHeartbeats 1600000 in
theorem bytes8_any (do_ : Value) (b : UInt8) (n : Int) (hn : 0 ≤ n ∧ n ≤ 65535) (at_ : Value) (w : World) (o : Own) :
    Calls Try.prog 41 #[.agg #[do_, .int .u8 (b.toNat : Int), .int .u16 n, at_]] w (Ret Nobody w o fun v w' o' => ∃ g, v = .slice (some ⟨g, 0, none⟩) (n % 3000).toNat (n % 3000).toNat ∧ Bytes w' o' v (fillM b (n % 3000).toNat)) := by
  obtain ⟨N, rfl⟩ : ∃ N : Nat, n = N := ⟨n.toNat, by omega⟩
  obtain ⟨m, hm⟩ : ∃ m : Nat, ((N : Int) % 3000).toNat = m := ⟨_, rfl⟩
  have hmI : (N : Int) % 3000 = (m : Int) := by omega
  have hm3 : m < 3000 := by omega
  rw [hm]
  have hn1 := hn.2
  have hmk := make_bytes (w.alloc (.cells #[do_, .int .u8 (b.toNat : Int), .int .u16 (N : Int), at_] 65)) m (by omega)
  have hst := ((Step.refl Nobody w o).alloc (.cells #[do_, .int .u8 (b.toNat : Int), .int .u16 (N : Int), at_] 65) (0, 0)).alloc (.cells (bvs (List.replicate m 0)).toArray 5) (0, 0)
  have hz : (w.alloc (.cells #[do_, .int .u8 (b.toNat : Int), .int .u16 (N : Int), at_] 65)).heap.size = w.heap.size + 1 := by simp
  have hb1 : (w.alloc (.cells #[do_, .int .u8 (b.toNat : Int), .int .u16 (N : Int), at_] 65)).heap[w.heap.size]? = some (.cells #[do_, .int .u8 (b.toNat : Int), .int .u16 (N : Int), at_] 65 (0, 0)) := heap_alloc_new w _
  obtain ⟨W1, hW1⟩ : ∃ W1, w.alloc (.cells #[do_, .int .u8 (b.toNat : Int), .int .u16 (N : Int), at_] 65) = W1 := ⟨_, rfl⟩
  rw [hW1] at hmk hst hz hb1
  have hb2 : (W1.alloc (.cells (bvs (List.replicate m 0)).toArray 5)).heap[w.heap.size]? = some (.cells [do_, .int .u8 (b.toNat : Int), .int .u16 (N : Int), at_].toArray 65 (0, 0)) := by rw [Below.heap_alloc _ _ _ (by omega)]; exact hb1
  have hg := heap_alloc_new W1 (.cells (bvs (List.replicate m 0)).toArray 5)
  rw [hz] at hst hg hmk
  have hog : tagAt (tagAt o w.heap.size (0, 0)) (w.heap.size + 1) (0, 0) (w.heap.size + 1) = (0, 0) := tagAt_same _ _ _
  obtain ⟨g, hgE⟩ : ∃ g, w.heap.size + 1 = g := ⟨_, rfl⟩
  rw [hgE] at hst hg hmk hog
  generalize hW2 : W1.alloc (.cells (bvs (List.replicate m 0)).toArray 5) = W2 at *
  rw [← hW1] at hmk
  generalize tagAt (tagAt o w.heap.size (0, 0)) g (0, 0) = o2 at *
  rw [← hmI] at hmk
  have hmkH := hidden hmk
  have hmIH := hidden hmI
  clear hmk hb1 hz hm hW2 hmI hW1
  go_enter Try.func41, Try.ntmps41
  go_wp2_with ((with_reducible apply lit_makeSlice); exact hmkH.out; simp only [Act.put, List.setIfInBounds_toArray, List.set_cons_zero, List.set_cons_succ])
  go_loopw [4] (fun i wr => ∃ k : Nat, k ≤ m ∧ i = .int .i64 k ∧ wr.heap[g]? = some (.cells (bvs ((fillM b m).take k ++ List.replicate (m - k) 0)).toArray 5 (0, 0)) ∧ wr.heap[w.heap.size]? = some (.cells [do_, .int .u8 (b.toNat : Int), .int .u16 (N : Int), at_].toArray 65 (0, 0)) ∧ Step Nobody w o wr o2)
    (fun i _ => m - (intOf i).toNat)
  case atStart => exact ⟨0, Nat.zero_le _, rfl, by simpa using hg, hb2, hst⟩
  case round =>
    clear hst hb2 hg
    obtain ⟨k, hk, rfl, hg, hb2, hst⟩ := hrel
    by_cases hlt : k < m
    · have c1 := cell_of_block hb2 1
      have hfg := free_of_block hg k
      have hcg := cell_of_block hg k
      have hval : ((b.toNat : Int) + (k : Int) / 7) % 256 = ((b + UInt8.ofNat (k / 7)).toNat : Int) := by rw [UInt8.toNat_add, UInt8.toNat_ofNat']; push_cast; omega
      have hgs := heap_setCell_at (i := k) (.int .u8 ((b + UInt8.ofNat (k / 7)).toNat : Int)) hg
      have hbs : (wr.setCell ⟨g, k, none⟩ (.int .u8 ((b + UInt8.ofNat (k / 7)).toNat : Int))).heap[w.heap.size]? = _ := (Below.heap_setCell _ _ _ _ (by show w.heap.size ≠ g; omega)).trans hb2
      have hss := hst.setCell (a := ⟨g, k, none⟩) (.int .u8 ((b + UInt8.ofNat (k / 7)).toNat : Int)) (.inr (by show w.heap.size ≤ g; omega))
      have hcs : (bvs ((fillM b m).take k ++ List.replicate (m - k) 0)).set k (.int .u8 ((b + UInt8.ofNat (k / 7)).toNat : Int)) = bvs ((fillM b m).take (k + 1) ++ List.replicate (m - (k + 1)) 0) := by rw [← fillM_step b m k hlt]; simp [bvs, List.map_set, bv]
      rw [hcs] at hgs
      obtain ⟨z, hz⟩ : ∃ z, (bvs ((fillM b m).take k ++ List.replicate (m - k) 0))[k]? = some z := ⟨_, List.getElem?_eq_getElem (by simp [length_fillM]; omega)⟩
      rw [hz] at hcg
      have hH := hidden (And.intro hgs (And.intro hbs hss))
      have hvalH := hidden hval
      clear hgs hbs hss hcs hz hval hg hb2 hst
      go_wp2_with fail
      rw [hvalH.out]
      go_roundw
      case rel => exact ⟨k + 1, by omega, by go_num, hH.out.1, hH.out.2.1, hH.out.2.2⟩
      case measure => simp [intOf]; omega
    · have hkm : k = m := by omega
      subst hkm
      go_wp2_with fail
      go_ret
      refine ⟨_, o2, rfl, hst, g, rfl, ?_⟩
      rw [List.take_of_length_le (by rw [length_fillM]; omega), Nat.sub_self, List.replicate_zero, List.append_nil] at hg
      refine .inr ⟨g, 0, k, by rw [length_fillM]; rfl, by rw [length_fillM]; omega, by simp [maxLen]; omega, by rw [hog], lt_of_block hg, range_whole hg⟩
set_option maxRecDepth 100000 in
set_option maxHeartbeats 1600000 in
theorem texts_any {w : World} {o : Own} {v : Value} {vs : List Value} {ls : List (List UInt8)} (hv : Slc w o v vs.length vs) (hr : RowsB w o vs ls) (hmany : vs.length ≤ 1000000) :
    Calls Try.prog 50 #[v] w (Ret Nobody w o fun v' w' o' => Slc w' o' v' ls.length (tvs ls)) := by
  obtain ⟨a, c, rfl⟩ := slc_form hv
  have hl0 := hr.1
  have hkl : ∀ k, k < vs.length → ∃ x l, vs[k]? = some x ∧ ls[k]? = some l := fun k hk => ⟨_, _, List.getElem?_eq_getElem hk, List.getElem?_eq_getElem (by omega)⟩
  obtain ⟨m, hm⟩ : ∃ m, vs.length = m := ⟨_, rfl⟩
  rw [hm] at hv hl0 hmany hkl ⊢
  have hrH := hidden hr
  have hlsE : ls.take m = ls := List.take_of_length_le (by omega)
  have hlsH := hidden hlsE
  have hl0H := hidden hl0
  clear hr hm hlsE hl0
  go_enter Try.func50, Try.ntmps50
  go_wp2_with fail
  go_loopw [3, 4] (fun out i wr => ∃ k : Nat, k ≤ m ∧ i = .int .i64 k ∧ wr.ownsRow w.heap.size 9 1 out k (tvs (ls.take k)) ∧ Below w.heap.size w wr)
    (fun _ i _ => m - (intOf i).toNat)
  case atStart => exact ⟨0, Nat.zero_le _, rfl, World.ownsRow_nil _ _ _ _, Below.refl _ _⟩
  case round =>
    obtain ⟨k, hk, rfl, hown, hbel⟩ := hrel
    obtain ⟨oa, oc, rfl⟩ := own_form hown
    by_cases hlt : k < m
    · have hs : Step Nobody w o wr (ext w o) := ⟨hbel.os, hbel.tape, hbel.output, hbel.size, fun k hk => if_pos hk, fun k hk _ => hbel.block k hk⟩
      obtain ⟨x, l, hx, hl⟩ := hkl k hlt
      obtain ⟨b, off, hab, hc, hbl, hbo⟩ := (hv.step hs (fun h => h)).cell k hx
      subst hab
      have hby := (hrH.out.2 k x l hx hl).step hs (fun h => h)
      obtain ⟨xa, xc, rfl⟩ := slc_form hby
      have hcv := conv_string hby
      have hownA := hown.alloc (.cells #[.string ⟨l.toArray⟩] 9)
      have hnb : (wr.alloc (.cells #[.string ⟨l.toArray⟩] 9)).heap[wr.heap.size]? = some (.cells [Value.string ⟨l.toArray⟩].toArray 9 (0, 0)) := heap_alloc_new wr _
      obtain ⟨g, cap, w3, hrun, hown3, hgrow, hat, hlt3⟩ := run_append_row (P := Try.prog) _ 41 41 9 Try.underlying41 inf9 rfl (by omega) (by have := hbel.size; simp; omega) _ k (tvs (ls.take k)) hownA wr.heap.size 0 1 1
        [Value.string ⟨l.toArray⟩] rfl (range_whole hnb) (one_cons rfl (by simp)) (by omega) (by omega) (by omega)
      have hb3 : Below w.heap.size w w3 := (hbel.alloc hbel.size _).grown hgrow (by have := hbel.size; simp; omega) (fun k hk => (hown.lt k hk).1)
      have htk : tvs (ls.take k) ++ [Value.string ⟨l.toArray⟩] = tvs (ls.take (k + 1)) := by rw [List.take_add_one, hl]; simp [tvs]
      rw [htk] at hown3
      have hrunH := hidden hrun
      clear hrun hat hlt3 hnb hownA htk hs hby hx hl
      go_wp2_with ((with_reducible apply lit_append); exact hrunH.out; simp only [Act.put, List.setIfInBounds_toArray, List.set_cons_zero, List.set_cons_succ])
      go_roundw
      case rel => exact ⟨k + 1, by omega, by go_num, hown3, hb3⟩
      case measure => simp [intOf]; omega
    · have hkm : k = m := by omega
      subst hkm
      go_wp2_with fail
      go_ret
      refine ⟨_, ext w o, rfl, ⟨hbel.os, hbel.tape, hbel.output, hbel.size, fun k hk => if_pos hk, fun k hk _ => hbel.block k hk⟩, ?_⟩
      rw [hlsH.out] at hown
      rw [← hl0H.out]
      exact own_slc hown fun q hq => by unfold ext; rw [if_neg (by have := (hown.lt q hq).1; omega)]
set_option maxRecDepth 100000 in
set_option maxHeartbeats 1600000 in
theorem equal_any {w : World} {o : Own} {v1 v2 : Value} {l1 l2 : List (List UInt8)} (h1 : Slc w o v1 l1.length (tvs l1)) (h2 : Slc w o v2 l2.length (tvs l2)) (hmany : l1.length ≤ 1000000) :
    Calls Try.prog 49 #[v1, v2] w (Ret Nobody w o fun v _ _ => v = .bool (l1 == l2)) := by
  obtain ⟨a1, c1, rfl⟩ := slc_form h1
  obtain ⟨a2, c2, rfl⟩ := slc_form h2
  by_cases hl : l1.length = l2.length
  · rw [← hl] at h2 ⊢
    have hlH := hidden hl
    obtain ⟨m, hm⟩ : ∃ m, l1.length = m := ⟨_, rfl⟩
    have hmH := hidden hm
    rw [hm] at h1 h2 hmany hl ⊢
    have hgt : ∀ k, k < m → (tvs l1)[k]? = some (.string ⟨(l1.getD k []).toArray⟩) ∧ (tvs l2)[k]? = some (.string ⟨(l2.getD k []).toArray⟩) := fun k hk => ⟨get_tvs l1 k (by omega), get_tvs l2 k (by omega)⟩
    clear hm hl
    go_enter Try.func49, Try.ntmps49
    go_wp2_with fail
    go_loopw [5] (fun i wr => ∃ k : Nat, k ≤ m ∧ i = .int .i64 k ∧ Hid (∀ j, j < k → l1.getD j [] = l2.getD j []) ∧ Step Nobody w o wr o) (fun i _ => m - (intOf i).toNat)
    case atStart => exact ⟨0, Nat.zero_le _, rfl, hidden (fun j hj => by omega), Step.refl _ _ _⟩
    case round =>
      obtain ⟨k, hk, rfl, hall, hst⟩ := hrel
      by_cases hlt : k < m
      · obtain ⟨b1, f1, e1, x1, -, -⟩ := (h1.step hst (fun h => h)).cell k (hgt k hlt).1
        obtain ⟨b2, f2, e2, x2, -, -⟩ := (h2.step hst (fun h => h)).cell k (hgt k hlt).2
        subst e1 e2
        have hst2 := hst.drew
        obtain ⟨y1, hy1⟩ : ∃ y, l1.getD k [] = y := ⟨_, rfl⟩
        obtain ⟨y2, hy2⟩ : ∃ y, l2.getD k [] = y := ⟨_, rfl⟩
        rw [hy1] at x1
        rw [hy2] at x2
        have hy1H := hidden hy1
        have hy2H := hidden hy2
        clear hy1 hy2
        by_cases he : y1 = y2
        · have heH := hidden he
          clear he
          go_wp2_with fail
          refine wp_region_need (fun w' => w'.cell? ⟨b1, f1 + k, none⟩ = some (.string ⟨y1.toArray⟩) ∧ w'.cell? ⟨b2, f2 + k, none⟩ = some (.string ⟨y2.toArray⟩)) (fun _ => true) (by kernel_rfl) ⟨x1, x2⟩ (fun hHeld => ?_)
          refine wpAnyN_take (i := 0) (v := ?_) rfl (by kernel_rfl) (by kernel_rfl) (by kernel_rfl) (by kernel_rfl) (fun _ _ _ h => h) (Or.inl ⟨by rfl, ?_⟩) (by assumption) ?_
          rotate_left
          · intro w hSw; ((try dsimp only at hSw); go_simp; (try with_reducible rfl))
          simp only [Act.put, List.setIfInBounds_toArray, List.set_cons_zero, List.set_cons_succ]
          refine wpAnyN_take (i := 1) (v := ?_) rfl (by kernel_rfl) (by kernel_rfl) (by kernel_rfl) (by kernel_rfl) (fun _ _ _ h => h) (Or.inl ⟨by rfl, ?_⟩) (by assumption) ?_
          rotate_left
          · intro w hSw; ((try dsimp only at hSw); go_simp; (try with_reducible rfl))
          simp only [Act.put, List.setIfInBounds_toArray, List.set_cons_zero, List.set_cons_succ]
          refine wpAnyN_take (i := 2) (v := ?_) rfl (by kernel_rfl) (by kernel_rfl) (by kernel_rfl) (by kernel_rfl) (fun _ _ _ h => h) (Or.inl ⟨by rfl, ?_⟩) (by assumption) ?_
          rotate_left
          · intro w hSw; ((try dsimp only at hSw); go_simp; (try with_reducible rfl))
          simp only [Act.put, List.setIfInBounds_toArray, List.set_cons_zero, List.set_cons_succ]
          refine wpAnyN_take (i := 3) (v := ?_) rfl (by kernel_rfl) (by kernel_rfl) (by kernel_rfl) (by kernel_rfl) (fun _ _ _ h => h) (Or.inl ⟨by rfl, ?_⟩) (by assumption) ?_
          rotate_left
          · intro w hSw; ((try dsimp only at hSw); go_simp; (try with_reducible rfl))
          simp only [Act.put, List.setIfInBounds_toArray, List.set_cons_zero, List.set_cons_succ]
          refine wpAnyN_take (i := 4) (v := ?_) rfl (by kernel_rfl) (by kernel_rfl) (by kernel_rfl) (by kernel_rfl) (fun _ _ _ h => h) (Or.inl ⟨by rfl, ?_⟩) (by assumption) ?_
          rotate_left
          · intro w hSw; ((try dsimp only at hSw); go_simp; (try with_reducible rfl))
          simp only [Act.put, List.setIfInBounds_toArray, List.set_cons_zero, List.set_cons_succ]
          refine wpAnyN_take (i := 5) (v := ?_) rfl (by kernel_rfl) (by kernel_rfl) (by kernel_rfl) (by kernel_rfl) (fun _ _ _ h => h) (Or.inl ⟨by rfl, ?_⟩) (by assumption) ?_
          rotate_left
          · intro w hSw; ((try dsimp only at hSw); go_simp; (try with_reducible rfl))
          simp only [Act.put, List.setIfInBounds_toArray, List.set_cons_zero, List.set_cons_succ]
          refine wpAnyN_take (i := 6) (v := ?_) rfl (by kernel_rfl) (by kernel_rfl) (by kernel_rfl) (by kernel_rfl) (fun _ _ _ h => h) (Or.inl ⟨by rfl, ?_⟩) (by assumption) ?_
          rotate_left
          · intro w hSw; ((try dsimp only at hSw); go_simp; (try with_reducible rfl))
          simp only [Act.put, List.setIfInBounds_toArray, List.set_cons_zero, List.set_cons_succ]
          refine wpAnyN_take (i := 7) (v := ?_) rfl (by kernel_rfl) (by kernel_rfl) (by kernel_rfl) (by kernel_rfl) (fun _ _ _ h => h) (Or.inl ⟨by rfl, ?_⟩) (by assumption) ?_
          rotate_left
          · intro w hSw; ((try dsimp only at hSw); go_simp; (try with_reducible rfl))
          simp only [Act.put, List.setIfInBounds_toArray, List.set_cons_zero, List.set_cons_succ]
          refine wpAnyN_take (i := 8) (v := .bool false) rfl (by kernel_rfl) (by kernel_rfl) (by kernel_rfl) (by kernel_rfl) (fun _ _ _ h => h) (Or.inl ⟨by rfl, fun w hSw => by go_simp; exact heH.out⟩) (by assumption) ?_
          simp only [Act.put, List.setIfInBounds_toArray, List.set_cons_zero, List.set_cons_succ]
          refine wpAnyN_done (by kernel_rfl) ?_ _
          go_wp2_with fail
          go_roundw
          case rel => exact ⟨k + 1, by omega, by go_num, hidden (fun j hj => by
            by_cases hjk : j < k
            · exact hall.out j hjk
            · obtain rfl : j = k := by omega
              rw [hy1H.out, hy2H.out]; exact heH.out), hst2⟩
          case measure => simp [intOf]; omega
        · have hne : (l1 == l2) = false := by rw [beq_eq_false_iff_ne]; rintro rfl; exact he (hy1H.out.symm.trans hy2H.out)
          have hneH := hidden hne
          have heH := hidden he
          clear he hne
          go_wp2_with fail
          refine wp_region_need (fun w' => w'.cell? ⟨b1, f1 + k, none⟩ = some (.string ⟨y1.toArray⟩) ∧ w'.cell? ⟨b2, f2 + k, none⟩ = some (.string ⟨y2.toArray⟩)) (fun _ => true) (by kernel_rfl) ⟨x1, x2⟩ (fun hHeld => ?_)
          refine wpAnyN_take (i := 0) (v := ?_) rfl (by kernel_rfl) (by kernel_rfl) (by kernel_rfl) (by kernel_rfl) (fun _ _ _ h => h) (Or.inl ⟨by rfl, ?_⟩) (by assumption) ?_
          rotate_left
          · intro w hSw; ((try dsimp only at hSw); go_simp; (try with_reducible rfl))
          simp only [Act.put, List.setIfInBounds_toArray, List.set_cons_zero, List.set_cons_succ]
          refine wpAnyN_take (i := 1) (v := ?_) rfl (by kernel_rfl) (by kernel_rfl) (by kernel_rfl) (by kernel_rfl) (fun _ _ _ h => h) (Or.inl ⟨by rfl, ?_⟩) (by assumption) ?_
          rotate_left
          · intro w hSw; ((try dsimp only at hSw); go_simp; (try with_reducible rfl))
          simp only [Act.put, List.setIfInBounds_toArray, List.set_cons_zero, List.set_cons_succ]
          refine wpAnyN_take (i := 2) (v := ?_) rfl (by kernel_rfl) (by kernel_rfl) (by kernel_rfl) (by kernel_rfl) (fun _ _ _ h => h) (Or.inl ⟨by rfl, ?_⟩) (by assumption) ?_
          rotate_left
          · intro w hSw; ((try dsimp only at hSw); go_simp; (try with_reducible rfl))
          simp only [Act.put, List.setIfInBounds_toArray, List.set_cons_zero, List.set_cons_succ]
          refine wpAnyN_take (i := 3) (v := ?_) rfl (by kernel_rfl) (by kernel_rfl) (by kernel_rfl) (by kernel_rfl) (fun _ _ _ h => h) (Or.inl ⟨by rfl, ?_⟩) (by assumption) ?_
          rotate_left
          · intro w hSw; ((try dsimp only at hSw); go_simp; (try with_reducible rfl))
          simp only [Act.put, List.setIfInBounds_toArray, List.set_cons_zero, List.set_cons_succ]
          refine wpAnyN_take (i := 4) (v := ?_) rfl (by kernel_rfl) (by kernel_rfl) (by kernel_rfl) (by kernel_rfl) (fun _ _ _ h => h) (Or.inl ⟨by rfl, ?_⟩) (by assumption) ?_
          rotate_left
          · intro w hSw; ((try dsimp only at hSw); go_simp; (try with_reducible rfl))
          simp only [Act.put, List.setIfInBounds_toArray, List.set_cons_zero, List.set_cons_succ]
          refine wpAnyN_take (i := 5) (v := ?_) rfl (by kernel_rfl) (by kernel_rfl) (by kernel_rfl) (by kernel_rfl) (fun _ _ _ h => h) (Or.inl ⟨by rfl, ?_⟩) (by assumption) ?_
          rotate_left
          · intro w hSw; ((try dsimp only at hSw); go_simp; (try with_reducible rfl))
          simp only [Act.put, List.setIfInBounds_toArray, List.set_cons_zero, List.set_cons_succ]
          refine wpAnyN_take (i := 6) (v := ?_) rfl (by kernel_rfl) (by kernel_rfl) (by kernel_rfl) (by kernel_rfl) (fun _ _ _ h => h) (Or.inl ⟨by rfl, ?_⟩) (by assumption) ?_
          rotate_left
          · intro w hSw; ((try dsimp only at hSw); go_simp; (try with_reducible rfl))
          simp only [Act.put, List.setIfInBounds_toArray, List.set_cons_zero, List.set_cons_succ]
          refine wpAnyN_take (i := 7) (v := ?_) rfl (by kernel_rfl) (by kernel_rfl) (by kernel_rfl) (by kernel_rfl) (fun _ _ _ h => h) (Or.inl ⟨by rfl, ?_⟩) (by assumption) ?_
          rotate_left
          · intro w hSw; ((try dsimp only at hSw); go_simp; (try with_reducible rfl))
          simp only [Act.put, List.setIfInBounds_toArray, List.set_cons_zero, List.set_cons_succ]
          refine wpAnyN_take (i := 8) (v := .bool true) rfl (by kernel_rfl) (by kernel_rfl) (by kernel_rfl) (by kernel_rfl) (fun _ _ _ h => h) (Or.inl ⟨by rfl, fun w hSw => by go_simp; exact heH.out⟩) (by assumption) ?_
          simp only [Act.put, List.setIfInBounds_toArray, List.set_cons_zero, List.set_cons_succ]
          refine wpAnyN_done (by kernel_rfl) ?_ _
          go_wp2_with fail
          go_ret
          exact ⟨_, o, rfl, hst2, by rw [hneH.out]; rfl⟩
      · have hkm : k = m := by omega
        subst hkm
        have hE : (l1 == l2) = true := by
          rw [beq_iff_eq]
          apply List.ext_getElem
          · exact hlH.out
          · intro i i1 i2
            have := hall.out i (by rw [← hmH.out]; exact i1)
            simpa [List.getD_eq_getElem?_getD, i1, i2] using this
        have hEH := hidden hE
        clear hE
        go_wp2_with fail
        go_ret
        exact ⟨_, o, rfl, hst, by rw [hEH.out]; rfl⟩
  · have hlI : ¬ (l1.length : Int) = (l2.length : Int) := by omega
    have hE : (l1 == l2) = false := by
      rw [beq_eq_false_iff_ne]; rintro rfl; exact hl rfl
    have hEH := hidden hE
    clear h1 h2 hE hl
    generalize l1.length = x1 at *
    generalize l2.length = x2 at *
    go_enter Try.func49, Try.ntmps49
    go_wp2_with fail
    go_ret
    exact ⟨_, o, rfl, Step.refl _ _ _, by rw [hEH.out]; rfl⟩
end Go.Proofs.YtfgggkheadfiaaaR
