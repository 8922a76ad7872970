/- The law's own page of layer 8 (fn 45). -/
import Derived.Test.YtfgggkheadfiaaaRRows
import Derived.Test.YtfgggkheadfiaaaRPg2
import Derived.Test.YtfgggkheadfiaaaRPg7
import Derived.Test.YtfgggkheadfiaaaRPg8
import Derived.Test.YtfgggkheadfiaaaRPg10
import Derived.Test.YtfgggkheadfiaaaRPg11
namespace Go.Proofs.YtfgggkheadfiaaaR
open Go Go.RowKit
attribute [local go_sem ↓] Go.wp_at_zero Go.wp_at_succ

def pageM (b : UInt8) (n at_ : Nat) : List UInt8 :=
  if b = 0 then List.replicate 512 0 else if b = 1 then LeafM.page ⟨BitVec.ofNat 64 n, at_ % 2, 2, [120, 121, 122]⟩ else List.replicate 512 b
theorem length_pageM (b : UInt8) (n at_ : Nat) : (pageM b n at_).length = 512 := by
  unfold pageM
  split
  · exact List.length_replicate
  · split
    · exact LeafM.length_page (by simp)
    · exact List.length_replicate
theorem and_one : ∀ i : Fin 32, bits .and .i64 ((i.val : Nat) : Int) 1 = ((i.val % 2 : Nat) : Int) := by decide +kernel
theorem fill_step (b : UInt8) (m k : Nat) (h : k < m) : (List.replicate k b ++ List.replicate (m - k) 0).set k b = List.replicate (k + 1) b ++ List.replicate (m - (k + 1)) 0 := by
  rw [List.set_append_right _ _ (by simp), List.length_replicate, Nat.sub_self, show m - k = (m - (k + 1)) + 1 from by omega, List.replicate_succ, List.set_cons_zero, List.replicate_succ' (n := k)]
  simp
set_option maxRecDepth 100000 in
set_option maxHeartbeats 1600000 in
theorem page8_zero (do_ : Value) (n : Int) (at_ : Value) (w : World) (o : Own) :
    Calls Try.prog 45 #[.agg #[do_, .int .u8 0, .int .u16 n, at_]] w (Ret Nobody w o fun v w' o' => ∃ g c, v = .slice (some ⟨g, 0, none⟩) 512 c ∧ Bytes w' o' v (List.replicate 512 0)) := by
  have hmk := make_bytes (w.alloc (.cells #[do_, .int .u8 0, .int .u16 n, at_] 65)) 512 (by omega)
  have hst := ((Step.refl Nobody w o).alloc (.cells #[do_, .int .u8 0, .int .u16 n, at_] 65) (0, 0)).alloc (.cells (bvs (List.replicate 512 0)).toArray 5) (0, 0)
  have hz : (w.alloc (.cells #[do_, .int .u8 0, .int .u16 n, at_] 65)).heap.size = w.heap.size + 1 := by simp
  have hb1 : (w.alloc (.cells #[do_, .int .u8 0, .int .u16 n, at_] 65)).heap[w.heap.size]? = some (.cells [do_, .int .u8 0, .int .u16 n, at_].toArray 65 (0, 0)) := heap_alloc_new w _
  have c1 : (w.alloc (.cells #[do_, .int .u8 0, .int .u16 n, at_] 65)).cell? ⟨w.heap.size, 1, none⟩ = some (.int .u8 0) := cell_of_block hb1 1
  have hg := heap_alloc_new (w.alloc (.cells #[do_, .int .u8 0, .int .u16 n, at_] 65)) (.cells (bvs (List.replicate 512 0)).toArray 5)
  have hmkH := hidden hmk
  have hH := hidden (And.intro hst hg)
  clear hmk hst hg hz hb1
  go_enter Try.func45, Try.ntmps45
  go_wp2_with ((with_reducible apply lit_makeSlice); exact hmkH.out; simp only [Act.put, List.setIfInBounds_toArray, List.set_cons_zero, List.set_cons_succ])
  go_ret
  refine ⟨_, _, rfl, hH.out.1, _, _, rfl, .inr ⟨_, 0, 512, by rw [List.length_replicate]; rfl, by simp, by simp [maxLen], ?_, ?_, ?_⟩⟩
  · rw [tagAt_same]
  · exact lt_of_block hH.out.2
  · exact range_whole hH.out.2
set_option maxRecDepth 100000 in
set_option maxHeartbeats 1600000 in
theorem page8_leaf (do_ : Value) (n a : Nat) (hn : n ≤ 65535) (ha : a < 32) (w : World) (o : Own) :
    Calls Try.prog 45 #[.agg #[do_, .int .u8 1, .int .u16 (n : Int), .int .i64 (a : Int)]] w (Ret Nobody w o fun v w' o' => ∃ g c, v = .slice (some ⟨g, 0, none⟩) 512 c ∧ Bytes w' o' v (LeafM.page ⟨BitVec.ofNat 64 n, a % 2, 2, [120, 121, 122]⟩)) := by
  have hst := (Step.refl Nobody w o).alloc (.cells #[do_, .int .u8 1, .int .u16 (n : Int), .int .i64 (a : Int)] 65) (0, 0)
  have hb1 : (w.alloc (.cells #[do_, .int .u8 1, .int .u16 (n : Int), .int .i64 (a : Int)] 65)).heap[w.heap.size]? = some (.cells [do_, .int .u8 1, .int .u16 (n : Int), .int .i64 (a : Int)].toArray 65 (0, 0)) := heap_alloc_new w _
  have c1 : (w.alloc (.cells #[do_, .int .u8 1, .int .u16 (n : Int), .int .i64 (a : Int)] 65)).cell? ⟨w.heap.size, 1, none⟩ = some (.int .u8 1) := cell_of_block hb1 1
  have c2 : (w.alloc (.cells #[do_, .int .u8 1, .int .u16 (n : Int), .int .i64 (a : Int)] 65)).cell? ⟨w.heap.size, 2, none⟩ = some (.int .u16 (n : Int)) := cell_of_block hb1 2
  have c3 : (w.alloc (.cells #[do_, .int .u8 1, .int .u16 (n : Int), .int .i64 (a : Int)] 65)).cell? ⟨w.heap.size, 3, none⟩ = some (.int .i64 (a : Int)) := cell_of_block hb1 3
  have hleaf := rleaf_any ⟨BitVec.ofNat 64 n, a % 2, 2, [120, 121, 122]⟩ (by simp) (by simp; omega) (by simp) (w.alloc (.cells #[do_, .int .u8 1, .int .u16 (n : Int), .int .i64 (a : Int)] 65)) (tagAt o w.heap.size (0, 0))
  have hnn : ((BitVec.ofNat 64 n).toNat : Int) = (n : Int) := by rw [BitVec.toNat_ofNat, Nat.mod_eq_of_lt (by omega)]
  have hand := and_one ⟨a, ha⟩
  have hpl : (LeafM.page ⟨BitVec.ofNat 64 n, a % 2, 2, [120, 121, 122]⟩).length = 512 := LeafM.length_page (by simp)
  simp only at hand
  simp only [hnn] at hleaf
  generalize LeafM.page ⟨BitVec.ofNat 64 n, a % 2, 2, [120, 121, 122]⟩ = P at *
  obtain ⟨W1, hW1⟩ : ∃ W1, w.alloc (.cells #[do_, .int .u8 1, .int .u16 (n : Int), .int .i64 (a : Int)] 65) = W1 := ⟨_, rfl⟩
  rw [hW1] at hst hleaf
  generalize tagAt o w.heap.size (0, 0) = o1 at *
  have hleafH := hidden hleaf
  have handH := hidden hand
  have hstH := hidden hst
  have hplH := hidden hpl
  have hWH := hidden hW1
  clear hleaf hand hst hb1 hnn hpl hW1
  go_enter Try.func45, Try.ntmps45
  go_wp2_with fail
  rw [handH.out, hWH.out]
  refine hleafH.out.mono ?_
  rintro e w2 ⟨v, o2, rfl, hs2, rfl⟩
  simp only []
  obtain ⟨cc, w3, o3, hrun, hs3, hby⟩ := conv_str_bytes w2 o2 P (by rw [hplH.out]; omega)
  rw [hplH.out] at hrun hby
  have hrunH := hidden hrun
  clear hrun
  go_wp2_with ((with_reducible apply lit_convert); exact hrunH.out; simp only [Act.put, List.setIfInBounds_toArray, List.set_cons_zero, List.set_cons_succ])
  go_ret
  exact ⟨_, o3, rfl, (hstH.out.trans hs2).trans hs3, _, _, rfl, hby⟩
set_option maxRecDepth 100000 in
set_option maxHeartbeats 1600000 in
theorem page8_fill (do_ : Value) (b : UInt8) (h0 : b ≠ 0) (h1 : b ≠ 1) (n : Int) (at_ : Value) (w : World) (o : Own) :
    Calls Try.prog 45 #[.agg #[do_, .int .u8 (b.toNat : Int), .int .u16 n, at_]] w (Ret Nobody w o fun v w' o' => ∃ g c, v = .slice (some ⟨g, 0, none⟩) 512 c ∧ Bytes w' o' v (List.replicate 512 b)) := by
  have hb0 : ((b.toNat : Int) == 0) = false := by
    have : b.toNat ≠ 0 := fun h => h0 (UInt8.toNat_inj.mp h)
    simpa using this
  have hb1' : ((b.toNat : Int) == 1) = false := by
    have : b.toNat ≠ 1 := fun h => h1 (UInt8.toNat_inj.mp h)
    simp only [beq_eq_false_iff_ne, ne_eq]; omega
  have hmk := make_bytes (w.alloc (.cells #[do_, .int .u8 (b.toNat : Int), .int .u16 n, at_] 65)) 512 (by omega)
  have hst := ((Step.refl Nobody w o).alloc (.cells #[do_, .int .u8 (b.toNat : Int), .int .u16 n, at_] 65) (0, 0)).alloc (.cells (bvs (List.replicate 512 0)).toArray 5) (0, 0)
  have hz : (w.alloc (.cells #[do_, .int .u8 (b.toNat : Int), .int .u16 n, at_] 65)).heap.size = w.heap.size + 1 := by simp
  have hb1 : (w.alloc (.cells #[do_, .int .u8 (b.toNat : Int), .int .u16 n, at_] 65)).heap[w.heap.size]? = some (.cells [do_, .int .u8 (b.toNat : Int), .int .u16 n, at_].toArray 65 (0, 0)) := heap_alloc_new w _
  have c1 : (w.alloc (.cells #[do_, .int .u8 (b.toNat : Int), .int .u16 n, at_] 65)).cell? ⟨w.heap.size, 1, none⟩ = some (.int .u8 (b.toNat : Int)) := cell_of_block hb1 1
  obtain ⟨W1, hW1⟩ : ∃ W1, w.alloc (.cells #[do_, .int .u8 (b.toNat : Int), .int .u16 n, at_] 65) = W1 := ⟨_, rfl⟩
  rw [hW1] at hmk hst hz hb1
  have hb2 : (W1.alloc (.cells (bvs (List.replicate 512 0)).toArray 5)).heap[w.heap.size]? = some (.cells [do_, .int .u8 (b.toNat : Int), .int .u16 n, at_].toArray 65 (0, 0)) := by rw [Below.heap_alloc _ _ _ (by omega)]; exact hb1
  have hg := heap_alloc_new W1 (.cells (bvs (List.replicate 512 0)).toArray 5)
  rw [hz] at hst hg hmk
  have hog : tagAt (tagAt o w.heap.size (0, 0)) (w.heap.size + 1) (0, 0) (w.heap.size + 1) = (0, 0) := tagAt_same _ _ _
  obtain ⟨g, hgE⟩ : ∃ g, w.heap.size + 1 = g := ⟨_, rfl⟩
  rw [hgE] at hst hg hmk hog
  generalize hW2 : W1.alloc (.cells (bvs (List.replicate 512 0)).toArray 5) = W2 at *
  rw [← hW1] at hmk
  generalize tagAt (tagAt o w.heap.size (0, 0)) g (0, 0) = o2 at *
  have hmkH := hidden hmk
  clear hmk hb1 hz hW2 hW1
  go_enter Try.func45, Try.ntmps45
  go_wp2_with ((with_reducible apply lit_makeSlice); exact hmkH.out; simp only [Act.put, List.setIfInBounds_toArray, List.set_cons_zero, List.set_cons_succ])
  go_loopw [4] (fun i wr => ∃ k : Nat, k ≤ 512 ∧ i = .int .i64 k ∧ wr.heap[g]? = some (.cells (bvs (List.replicate k b ++ List.replicate (512 - k) 0)).toArray 5 (0, 0)) ∧ wr.heap[w.heap.size]? = some (.cells [do_, .int .u8 (b.toNat : Int), .int .u16 n, at_].toArray 65 (0, 0)) ∧ Step Nobody w o wr o2)
    (fun i _ => 512 - (intOf i).toNat)
  case atStart => exact ⟨0, Nat.zero_le _, rfl, by simpa using hg, hb2, hst⟩
  case round =>
    clear hst hb2 hg
    obtain ⟨k, hk, rfl, hg, hb2, hst⟩ := hrel
    by_cases hlt : k < 512
    · have c1 := cell_of_block hb2 1
      have hfg := free_of_block hg k
      have hcg := cell_of_block hg k
      have hgs := heap_setCell_at (i := k) (.int .u8 (b.toNat : Int)) hg
      have hbs : (wr.setCell ⟨g, k, none⟩ (.int .u8 (b.toNat : Int))).heap[w.heap.size]? = _ := (Below.heap_setCell _ _ _ _ (by show w.heap.size ≠ g; omega)).trans hb2
      have hss := hst.setCell (a := ⟨g, k, none⟩) (.int .u8 (b.toNat : Int)) (.inr (by show w.heap.size ≤ g; omega))
      have hcs : (bvs (List.replicate k b ++ List.replicate (512 - k) 0)).set k (.int .u8 (b.toNat : Int)) = bvs (List.replicate (k + 1) b ++ List.replicate (512 - (k + 1)) 0) := by rw [← fill_step b 512 k hlt]; simp [bvs, List.map_set, bv]
      rw [hcs] at hgs
      obtain ⟨z, hz⟩ : ∃ z, (bvs (List.replicate k b ++ List.replicate (512 - k) 0))[k]? = some z := ⟨_, List.getElem?_eq_getElem (by simp; omega)⟩
      rw [hz] at hcg
      have hH := hidden (And.intro hgs (And.intro hbs hss))
      clear hgs hbs hss hcs hz hg hb2 hst
      go_wp2_with fail
      go_roundw
      case rel => exact ⟨k + 1, by omega, by go_num, hH.out.1, hH.out.2.1, hH.out.2.2⟩
      case measure => simp [intOf]; omega
    · have hkm : k = 512 := by omega
      subst hkm
      go_wp2_with fail
      go_ret
      refine ⟨_, o2, rfl, hst, g, _, rfl, ?_⟩
      rw [Nat.sub_self, List.replicate_zero, List.append_nil] at hg
      refine .inr ⟨g, 0, 512, by rw [List.length_replicate]; rfl, by simp, by simp [maxLen], by rw [hog], lt_of_block hg, range_whole hg⟩
theorem page8_any (do_ : Value) (b : UInt8) (n a : Nat) (hn : n ≤ 65535) (ha : a < 32) (w : World) (o : Own) :
    Calls Try.prog 45 #[.agg #[do_, .int .u8 (b.toNat : Int), .int .u16 (n : Int), .int .i64 (a : Int)]] w (Ret Nobody w o fun v w' o' => ∃ g c, v = .slice (some ⟨g, 0, none⟩) 512 c ∧ Bytes w' o' v (pageM b n a)) := by
  unfold pageM
  by_cases h0 : b = 0
  · subst h0; exact page8_zero do_ _ _ w o
  · rw [if_neg h0]
    by_cases h1 : b = 1
    · subst h1; exact page8_leaf do_ n a hn ha w o
    · rw [if_neg h1]; exact page8_fill do_ b h0 h1 _ _ w o
end Go.Proofs.YtfgggkheadfiaaaR
/- The acts of LogPages: how they are read; what an act leaves, on both sides. -/
namespace Go.Proofs.YtfgggkheadfiaaaR
open Go Go.RowKit

structure Act8 where
  do_ : Int
  b : UInt8
  n : Int
  at_ : Int
namespace Act8
def cells (a : Act8) : List Value := [.int .u8 a.do_, .int .u8 (a.b.toNat : Int), .int .u16 a.n, .int .i64 a.at_]
def ok (a : Act8) : Prop := (0 ≤ a.do_ ∧ a.do_ ≤ 255) ∧ (0 ≤ a.n ∧ a.n ≤ 65535) ∧ -9223372036854775808 ≤ a.at_ ∧ a.at_ ≤ 9223372036854775807
end Act8
/-- v reads as the acts l. -/
def Acts8 (w : World) (o : Own) (v : Value) (l : List Act8) : Prop :=
  ((∃ a c, v = .slice a 0 c) ∧ l = []) ∨ ∃ b off cap, v = .slice (some ⟨b, off, none⟩) l.length cap ∧ l.length ≤ cap ∧ cap ≤ maxLen ∧ (o b).1 = 0 ∧ b < w.heap.size ∧
    ∀ i (h : i < l.length), w.rangeAt b (off + i * 4) l[i].cells ∧ l[i].ok
theorem Acts8.step {T : Nat → Prop} {w w' : World} {o o' : Own} {v : Value} {l : List Act8} (h : Acts8 w o v l) (s : Step T w o w' o') (hT : ¬ T 0) : Acts8 w' o' v l := by
  rcases h with h | ⟨b, off, cap, hv, hl, hm, ho, hb, hr⟩
  · exact .inl h
  · exact .inr ⟨b, off, cap, hv, hl, hm, by rw [s.own b hb]; exact ho, Nat.lt_of_lt_of_le hb s.size, fun i hi => ⟨range_same (hr i hi).1 (s.block b hb (by rw [ho]; exact hT)), (hr i hi).2⟩⟩
theorem Acts8.form {w : World} {o : Own} {v : Value} {l : List Act8} (h : Acts8 w o v l) : ∃ a c, v = .slice a l.length c := by
  rcases h with ⟨⟨a, c, rfl⟩, rfl⟩ | ⟨b, off, cap, rfl, _⟩ <;> exact ⟨_, _, rfl⟩
theorem Acts8.at {w : World} {o : Own} {a : Option Addr} {n c : Nat} {l : List Act8} (h : Acts8 w o (.slice a n c) l) (i : Nat) (hi : i < l.length) :
    ∃ b off, a = some ⟨b, off, none⟩ ∧ l[i].ok ∧ w.rangeAt b (off + i * 4) l[i].cells := by
  rcases h with ⟨_, rfl⟩ | ⟨b, off, cap, hv, hl, hm, ho, hb, hr⟩
  · simp at hi
  · simp only [Value.slice.injEq] at hv
    obtain ⟨rfl, rfl, rfl⟩ := hv
    exact ⟨b, off, rfl, (hr i hi).2, (hr i hi).1⟩
section
variable {H : Type} {enc : TypeId × Value → H} {W : World}
set_option maxRecDepth 100000 in
theorem read_acts8 {fuel : Nat} {v : Value} {x : DataW H × List MemPlace} (h : DataW.trod enc Try.prog W 0 (fun _ => true) true fuel 56 [v] = some x) :
    ∃ l : List Act8, Acts8 W (fun _ => (0, 0)) v l := by
  have c65 : Try.prog.cellsOf 65 = 4 := by kernel_rfl
  have c5 : Try.prog.cellsOf 5 = 1 := by kernel_rfl
  have c63 : Try.prog.cellsOf 63 = 1 := by kernel_rfl
  have c3 : Try.prog.cellsOf 3 = 1 := by kernel_rfl
  rcases read_slice Try.underlying56 (by omega) h with ⟨a, c, rfl⟩ | ⟨b, off, len, cap, rfl, h0, hlc, hcm, hb, hel⟩
  · exact ⟨[], .inl ⟨⟨a, c, rfl⟩, rfl⟩⟩
  · obtain ⟨l, hl, hr⟩ := list_choose (fun i (m : Act8) => W.rangeAt b (off + i * 4) m.cells ∧ m.ok) len (fun i hi => by
      obtain ⟨cs', k1, k2, n, y, k3⟩ := hel i (by omega)
      rw [c65] at k1 k2
      obtain ⟨xs, n', _, _, _, hxs, hf⟩ := DataW.trod_struct Try.underlying65 k3
      match cs', k1 with
      | [v0, v1, v2, v3], _ =>
        have f0 : DataW.trod enc Try.prog W 0 (fun _ => true) true n' 5 (([v0, v1, v2, v3].drop 0).take (Try.prog.cellsOf 5)) = xs[0]? := hf 0 _ rfl
        have f1 : DataW.trod enc Try.prog W 0 (fun _ => true) true n' 5 (([v0, v1, v2, v3].drop 1).take (Try.prog.cellsOf 5)) = xs[1]? := hf 1 _ rfl
        have f2 : DataW.trod enc Try.prog W 0 (fun _ => true) true n' 63 (([v0, v1, v2, v3].drop 2).take (Try.prog.cellsOf 63)) = xs[2]? := hf 2 _ rfl
        have f3 : DataW.trod enc Try.prog W 0 (fun _ => true) true n' 3 (([v0, v1, v2, v3].drop 3).take (Try.prog.cellsOf 3)) = xs[3]? := hf 3 _ rfl
        have hsz : xs.length = 4 := hxs
        simp only [c3, c5, c63, List.drop_zero, List.take_succ_cons, List.take_zero, List.drop_succ_cons] at f0 f1 f2 f3
        rw [List.getElem?_eq_getElem (by omega)] at f0 f1 f2 f3
        obtain ⟨a0, e0, _, w0⟩ := DataW.trod_int Try.underlying5 f0
        obtain ⟨a1, e1, _, w1⟩ := DataW.trod_int Try.underlying5 f1
        obtain ⟨a2, e2, _, w2⟩ := DataW.trod_int Try.underlying63 f2
        obtain ⟨a3, e3, _, w3⟩ := DataW.trod_int Try.underlying3 f3
        simp only [List.cons.injEq, and_true] at e0 e1 e2 e3
        have b1 := Go.bounds_u8 w1
        have hb1 : (((UInt8.ofNat a1.toNat).toNat : Nat) : Int) = a1 := by rw [UInt8.toNat_ofNat']; omega
        subst e0 e1 e2 e3
        exact ⟨⟨a0, UInt8.ofNat a1.toNat, a2, a3⟩, by unfold Act8.cells; simp only [hb1]; exact k2, Go.bounds_u8 w0, Go.bounds_u16 w2, Go.bounds_i64 w3⟩)
    exact ⟨l, .inr ⟨b, off, cap, by rw [hl], by omega, hcm, rfl, hb, hr⟩⟩
end
theorem load65 {w : World} {b off : Nat} {t : Act8} (hr : w.rangeAt b off t.cells) : (Instr.loadAt 65 (.pointer (some ⟨b, off, none⟩))).run Try.prog w = .ok (.agg t.cells.toArray) w := by
  simp only [Instr.loadAt, Instr.sureAddr, Sem.run_bind, Sem.run_pure, Result.andThen_ok]
  exact run_loadVar_mid w b off 65 t.cells _ hr Try.underlying65 rfl (by kernel_rfl)
theorem zc65 : ((Try.prog.info? 65).bind (·.zero)).map (·.cells) = some #[.int .u8 0, .int .u8 0, .int .u16 0, .int .i64 0] := by kernel_rfl

/-- The document's Open on a row of pages that is no plain data. -/
theorem ropen_at {w : World} {o : Own} {g cap E' : Nat} {cur : List Value} {R : List (List UInt8)} (h2 : w.heap[g]? = some (.cells cur.toArray 9 (0, 0))) (h3 : cur.take R.length = tvs R) (h4 : R.length ≤ cap) (h5 : cap ≤ maxLen)
    (h8 : 1 ≤ R.length) (h9 : R.length ≤ 2000) (h10 : ∀ q ∈ R, q.length = 512) (_hE0 : E' ≠ 0) (hE : ∀ k, k < w.heap.size → (o k).1 ≠ E') :
    Calls Try.prog 39 #[.slice (some ⟨g, 0, none⟩) R.length cap] w (Ret Nobody w o fun v w' o' => ROpened w w' o' E' R v) := by
  have hg := lt_of_block h2
  have hs : Slc w (tagAt o g (0, 0)) (.slice (some ⟨g, 0, none⟩) R.length cap) R.length (tvs R) := by
    refine .inr ⟨g, 0, cap, rfl, h4, h5, by rw [tagAt_same], hg, ?_⟩
    have : w.rangeAt g 0 ((cur.drop 0).take R.length) := range_of_block h2 0 R.length
    rw [List.drop_zero, h3] at this
    exact this
  refine (ropen_any (E := E') hs h10 h8 h9).mono ?_
  rintro e w2 ⟨v, o2, rfl, hs2, hv1, hv2⟩
  refine ⟨v, fun k => if k < w.heap.size then o k else o2 k, rfl, hs2.merge _ (fun k hk => if_pos hk), hv1, fun hn => ?_⟩
  obtain ⟨q, hq, rfl, g', cap', cur', k1, k2, k3, k4, k5, k6, k7, k8⟩ := hv2 hn
  refine ⟨q, hq, rfl, g', cap', cur', k1, k2, k3, k4, k5, ?_, ?_, k8⟩
  · simp only; rw [if_neg (by omega)]; exact k6
  · simp only
    rw [if_neg]
    · exact k7
    · intro hlt
      have e := hs2.own g' hlt
      rw [k7] at e
      by_cases hgg : g' = g
      · subst hgg; rw [tagAt_same] at e; simp only [Prod.mk.injEq] at e; omega
      · rw [tagAt_other _ _ hgg] at e
        exact hE g' hlt (by rw [← e])
/-- The document's log of a log's pages, opened anew. -/
theorem RefL.reopen {w : World} {o : Own} {E p E' : Nat} {R : List (List UInt8)} {S : BitVec 64} (h : RefL w o E p R S) (hE0 : E' ≠ 0) (hE : ∀ k, k < w.heap.size → (o k).1 ≠ E') :
    ∃ g cap, w.cell? ⟨p, 0, none⟩ = some (.slice (some ⟨g, 0, none⟩) R.length cap) ∧ Calls Try.prog 39 #[.slice (some ⟨g, 0, none⟩) R.length cap] w (Ret Nobody w o fun v w' o' => ROpened w w' o' E' R v) := by
  obtain ⟨g, cap, cur, h1, h2, h3, h4, h5, h6, h7, h8, h9, h10⟩ := h
  exact ⟨g, cap, cell_of_block (cs := [_, _]) h1 0, ropen_at h2 h3 h4 h5 h8 h9 h10 hE0 hE⟩
theorem fill_pages (k i : Nat) (B : List UInt8) (h : i < k) : (tvs (List.replicate i B ++ List.replicate (k - i) [])).set i (.string ⟨B.toArray⟩) = tvs (List.replicate (i + 1) B ++ List.replicate (k - (i + 1)) []) := by
  rw [tvs_set, List.set_append_right _ _ (by simp), List.length_replicate, Nat.sub_self, show k - i = (k - (i + 1)) + 1 from by omega, List.replicate_succ, List.set_cons_zero, List.replicate_succ' (n := i)]
  simp
theorem make_strs (w : World) (n : Nat) (hn : n ≤ 1000000) : (Instr.makeSlice 41 (.int .i64 (n : Int)) (.int .i64 (n : Int))).run Try.prog w = .ok (.slice (some ⟨w.heap.size, 0, none⟩) n n) (w.alloc (.cells (tvs (List.replicate n [])).toArray 9)) := by
  have hmk := run_make_zero (P := Try.prog) w 41 9 _ 1 16 Try.underlying41 inf9 rfl n (by omega) (by omega) .i64 .i64
  have hf : ∀ n : Nat, (List.replicate n [Value.string ⟨#[]⟩]).flatten = tvs (List.replicate n []) := by
    intro n
    induction n with
    | zero => rfl
    | succ n ih => rw [List.replicate_succ, List.replicate_succ, List.flatten_cons, ih]; rfl
  rw [hf] at hmk
  exact hmk
/-- A page of the document's log: where it lies, and what a write leaves. -/
theorem RefL.place {w : World} {o : Own} {E p : Nat} {R : List (List UInt8)} {S : BitVec 64} (h : RefL w o E p R S) :
    ∃ g cap, w.cell? ⟨p, 0, none⟩ = some (.slice (some ⟨g, 0, none⟩) R.length cap) ∧ p < w.heap.size ∧ g < w.heap.size ∧ (o p).1 = E ∧ (o g).1 = E ∧ p ≠ g ∧
      ∀ i, i < R.length → ∃ v, w.cell? ⟨g, i, none⟩ = some v ∧ w.frozen? ⟨g, i, none⟩ = false := by
  obtain ⟨g, cap, cur, h1, h2, h3, h4, h5, h6, h7, h8, h9, h10⟩ := h
  have hpg : p ≠ g := by rintro rfl; rw [h6] at h7; simp at h7
  refine ⟨g, cap, cell_of_block (cs := [_, _]) h1 0, lt_of_block h1, lt_of_block h2, by rw [h6], by rw [h7], hpg, fun i hi => ?_⟩
  have hci : i < cur.length := by
    have := congrArg List.length h3
    rw [List.length_take, length_tvs] at this; omega
  exact ⟨_, by rw [cell_of_block h2 i, List.getElem?_eq_getElem hci], free_of_block h2 i⟩
theorem RefL.wrote {w : World} {o : Own} {E p g cap : Nat} {R : List (List UInt8)} {S : BitVec 64} (h : RefL w o E p R S) (hc : w.cell? ⟨p, 0, none⟩ = some (.slice (some ⟨g, 0, none⟩) R.length cap)) (i : Nat) (b : List UInt8) (hb : b.length = 512) :
    RefL (w.setCell ⟨g, i, none⟩ (str b)) o E p (R.set i b) S ∧ Step (Only E) w o (w.setCell ⟨g, i, none⟩ (str b)) o := by
  obtain ⟨g', cap', cur, h1, h2, h3, h4, h5, h6, h7, h8, h9, h10⟩ := h
  have e0 : w.cell? ⟨p, 0, none⟩ = some (.slice (some ⟨g', 0, none⟩) R.length cap') := cell_of_block (cs := [_, _]) h1 0
  rw [hc] at e0
  simp only [Option.some.injEq, Value.slice.injEq, Addr.mk.injEq, and_true, true_and] at e0
  obtain ⟨rfl, rfl⟩ := e0
  exact ⟨RefL.put h1 h2 h3 h4 h5 h6 h7 h8 h9 h10 i b hb, (Step.refl (Only E) w o).setCell (a := ⟨g, i, none⟩) _ (.inl (by show (o g).1 = E; rw [h7]))⟩
theorem RefL.grow {w : World} {o : Own} {E p : Nat} {R R' : List (List UInt8)} {S S' : BitVec 64} (h : RefL w o E p R S) (hR : R = R') (hS : S = S') : RefL w o E p R' S' := by subst hR hS; exact h

namespace LogM
def top : Nat := 18374403900871474942
theorem num_fill : ∀ b : Fin 256, b.val = 255 ∨ (num (List.replicate 8 (UInt8.ofNat b.val))).toNat ≤ top := by decide +kernel
theorem num_ff : num (List.replicate 8 (255 : UInt8)) = BitVec.allOnes 64 := by decide +kernel
theorem fill_ends (b : UInt8) : (List.replicate 512 b).take 8 = List.replicate 8 b ∧ (List.replicate 512 b).drop 504 = List.replicate 8 b := by
  rw [List.take_replicate, List.drop_replicate]; exact ⟨rfl, rfl⟩
theorem pageM_nums {b : UInt8} {n at_ : Nat} (hn : n ≤ 65535) : (b = 255 ∧ num ((pageM b n at_).take 8) = BitVec.allOnes 64) ∨ ((num ((pageM b n at_).take 8)).toNat ≤ top ∧ (num ((pageM b n at_).drop 504)).toNat ≤ top) := by
  have hb := num_fill ⟨b.toNat, b.toNat_lt⟩
  simp only [UInt8.ofNat_toNat] at hb
  unfold pageM
  by_cases h0 : b = 0
  · subst h0
    rw [if_pos rfl, (fill_ends 0).1, (fill_ends 0).2]
    right; rcases hb with hb | hb
    · simp at hb
    · exact ⟨hb, hb⟩
  · rw [if_neg h0]
    by_cases h1 : b = 1
    · rw [if_pos h1]
      right
      obtain ⟨e1, e2⟩ := head8 (x := ⟨BitVec.ofNat 64 n, at_ % 2, 2, [120, 121, 122]⟩) (by simp)
      rw [e1, e2]
      have : (BitVec.ofNat 64 n).toNat ≤ top := by rw [BitVec.toNat_ofNat]; unfold top; omega
      exact ⟨this, this⟩
    · rw [if_neg h1, (fill_ends b).1, (fill_ends b).2]
      rcases hb with hb | hb
      · left
        have : b = 255 := UInt8.toNat_inj.1 hb
        subst this
        exact ⟨rfl, num_ff⟩
      · right; exact ⟨hb, hb⟩
theorem newest_wrote {R : List (List UInt8)} {p m : Nat} {b : UInt8} {n at_ : Nat} (hn : n ≤ 65535) (hp : p < R.length) (hm : top ≤ m) (hR : (newest R).toNat ≤ m) (hne : newest (R.set p (pageM b n at_)) ≠ BitVec.allOnes 64) : (newest (R.set p (pageM b n at_))).toNat ≤ m := by
  have hmem : pageM b n at_ ∈ R.set p (pageM b n at_) := List.mem_of_getElem? (i := p) (by rw [List.getElem?_set_self (by omega)])
  have hge := (newest_ge hmem).1
  rcases pageM_nums (b := b) (at_ := at_) hn with ⟨-, h⟩ | ⟨h1, h2⟩
  · exfalso
    apply hne
    rw [h] at hge
    apply BitVec.eq_of_toNat_eq
    have := (newest (R.set p (pageM b n at_))).isLt
    simp only [BitVec.toNat_allOnes] at hge ⊢
    omega
  · rw [newest_le]
    intro q hq
    rcases List.mem_or_eq_of_mem_set hq with hq | rfl
    · have := newest_ge hq; omega
    · omega
theorem On.open {f k N : Nat} {s : LogM × DiskM} {d' : DiskM} {R R' : List (List UInt8)} (h : On f k N s R) (hd : OnD N d') (hs : seenPages d' f k = R') : On f k N (ofPages f R', d') R' := ⟨rfl, hs, hd, h.fit, h.k2⟩
theorem On.write {f k N : Nat} {s : LogM × DiskM} {R : List (List UInt8)} (h : On f k N s R) (p : Nat) (hp : p < k) (l : List UInt8) (hl : l.length = 512) :
    ∃ d', s.2.write ((f + p : Nat) : Int) l = (d', 0) ∧ OnD N d' ∧ seenPages d' f k = R.set p l ∧ d'.row.length = s.2.row.length + 1 := by
  obtain ⟨d', h1, h2, h3, h4⟩ := h.disk.write (f + p) (by have := h.fit; omega) l hl
  exact ⟨d', h1, h2, by rw [seen_set h3 hp, h.see], h4⟩
theorem On.recs {f k N : Nat} {s : LogM × DiskM} {R : List (List UInt8)} (h : On f k N s R) : s.1.records = (ofPages 0 R).records ∧ s.1.room = 480 * (R.length - (ofPages 0 R).end') := by
  rw [h.log]; exact ⟨rfl, rfl⟩
theorem On.read {f k N : Nat} {s : LogM × DiskM} {R : List (List UInt8)} (h : On f k N s R) (i : Nat) (hi : i < R.length) : s.2.read ((f + i : Nat) : Int) = (R.getD i [], 0) := by
  have hl := h.len
  have hf := h.fit
  have hd := h.disk.dd
  have hN := h.disk.len
  have ha : s.2.asked ((f + i : Nat) : Int) 512 = 0 := by
    unfold DiskM.asked; rw [hd]; simp only [Bool.false_eq_true, if_false]; rw [if_neg (by omega)]
  unfold DiskM.read
  rw [ha, if_neg (by simp), Int.toNat_natCast]
  have := get_seenPages s.2 f k i (by omega)
  rw [h.see] at this
  rw [List.getD_eq_getElem?_getD, this]; rfl
theorem on_new {f k : Nat} (hk : 2 ≤ k) (h4 : f + k + 1 ≤ 4096) : On f k (f + k + 1) (ofPages f (List.replicate k DiskM.blank), DiskM.new (f + k + 1)) (List.replicate k DiskM.blank) :=
  ⟨rfl, seen_new_at _ _ _ (by omega), ⟨rfl, by show (-1 : Int) < 0; omega, wf_new (by omega) h4, by simp [DiskM.new]⟩, by omega, hk⟩
end LogM
end Go.Proofs.YtfgggkheadfiaaaR
/- The statement LogPages: any acts with power, all pages, byte by byte; the walk. -/
namespace Go.Proofs.YtfgggkheadfiaaaR
open Go Go.RowKit
attribute [local go_sem ↓] Go.wp_at_zero Go.wp_at_succ

set_option maxRecDepth 100000 in
set_option maxHeartbeats 800000 in
theorem logPages_many {w : World} {o : Own} (first n : Int) {v : Value} {l : List Act8} (hl : Acts8 w o v l) (hm : 40 < l.length) :
    Calls Try.prog 8 #[.int .u8 first, .int .u8 n, v] w (Ret Nobody w o fun v _ _ => v = .bool true) := by
  obtain ⟨aa, ac, rfl⟩ := hl.form
  have hwk := wakes8_any w o
  have h1I : (40 : Int) < (l.length : Int) := by omega
  clear hl hm
  generalize l.length = x at *
  go_enter Try.func8, Try.ntmps8
  go_wp2_with fail
  refine hwk.mono ?_; rintro e wc ⟨v, oc, rfl, hs, rfl⟩
  go_wp2_with fail
  go_ret
  exact ⟨_, oc, rfl, hs, rfl⟩

set_option maxRecDepth 100000 in
set_option maxHeartbeats 12800000 in
theorem logPages_main {w : World} {o : Own} (F n : Nat) (hF : F ≤ 255) (hn : n ≤ 255) {v : Value} {l : List Act8} (hl : Acts8 w o v l) (hm : ¬ 40 < l.length) :
    Calls Try.prog 8 #[.int .u8 (F : Int), .int .u8 (n : Int), v] w (Ret Nobody w o fun v _ _ => v = .bool true) := by
  obtain ⟨M, -, hM⟩ := tag_bound o 0 w.heap.size
  obtain ⟨D, hD⟩ : ∃ D, D = M + 1 := ⟨_, rfl⟩
  obtain ⟨L, hL⟩ : ∃ L, L = M + 2 := ⟨_, rfl⟩
  have hD0 : D ≠ 0 := by omega
  have hL0 : L ≠ 0 := by omega
  have hLD : L ≠ D := by omega
  have mD : M < D := by omega
  have mL : M < L := by omega
  have hT0 : ¬ Above M 0 := fun h => by change M < 0 at h; omega
  have nn : ∀ k, ¬ Nobody k := fun _ h => h
  have nDL : ¬ Only D L := fun h => hLD h
  have nLD : ¬ Only L D := fun h => hLD h.symm
  have nL0 : ¬ Only L 0 := fun h => hL0 h.symm
  have nD0 : ¬ Only D 0 := fun h => hD0 h.symm
  have nI0 : ¬ In L D 0 := fun h => by rcases h with h | h <;> omega
  clear hD hL
  obtain ⟨f, hf⟩ : ∃ f, F % 4 = f := ⟨_, rfl⟩
  obtain ⟨k, hk⟩ : ∃ k, 2 + n % 19 = k := ⟨_, rfl⟩
  have hfi : (F : Int) % 4 = (f : Int) := by omega
  have hki : 2 + (n : Int) % 19 = (k : Int) := by omega
  have hf4 : f < 4 := by omega
  have hk2 : 2 ≤ k := by omega
  have hk20 : k ≤ 20 := by omega
  obtain ⟨aa, ac, rfl⟩ := hl.form
  obtain ⟨ll, hll⟩ : ∃ ll, l.length = ll := ⟨_, rfl⟩
  rw [hll] at hl hm ⊢
  have hlH := hidden hl
  have hllH := hidden hll
  have hfiH := hidden hfi
  have hkiH := hidden hki
  have hm1I : ¬ (40 : Int) < (ll : Int) := by omega
  have hnew := new_ok (f + k + 1) w o D (by omega) (by omega)
  have hbd := hidden (And.intro hF hn)
  have hF1 : (0 : Int) ≤ (F : Int) ∧ (F : Int) ≤ 255 := by omega
  have hn1 : (0 : Int) ≤ (n : Int) ∧ (n : Int) ≤ 255 := by omega
  rw [show ((f + k + 1 : Nat) : Int) = (f : Int) + (k : Int) + 1 from by omega] at hnew
  have hnewH := hidden hnew
  clear hl hll hfi hki hm hf hk hF hn hnew
  go_enter Try.func8, Try.ntmps8
  go_wp2_with fail
  rw [hfiH.out, hkiH.out]
  refine hnewH.out.mono ?_; rintro e wc ⟨v, oc, rfl, hs, pd, -, rfl, hd⟩
  have hst := hs.above0 (M := M)
  have hlen : (DiskM.new (f + k + 1)).pages.length = f + k + 1 := by simp [DiskM.new]
  have hx := open_yes hL0 hD0 hLD hd (by simp [DiskM.new]) rfl f k hk2 (by omega) (by rw [hlen]; omega)
  rw [LogM.seen_new_at _ f k (by omega)] at hx
  clear hs hlen hfiH hkiH hnewH
  have hxH := hidden hx
  clear hx
  go_wp2_with fail
  refine hxH.out.mono ?_; rintro e w2 ⟨v, o2, rfl, hs, hop⟩
  obtain ⟨px, -, rfl, hla⟩ := hop.2 (by rw [newest_blank]; decide)
  have hst := hst.trans (hs.above1 mL)
  have hd := hd.step hs nLD
  have hld : LD w2 o2 L D px pd (LogM.ofPages f (List.replicate k DiskM.blank), DiskM.new (f + k + 1)) := ⟨hla, hd⟩
  have hOn := hidden (LogM.on_new (f := f) hk2 (by omega))
  have hrw0 : (DiskM.new (f + k + 1)).row.length ≤ 0 := by simp [DiskM.new]
  have hnb := newest_blank k
  clear hs hop hla hd hxH
  obtain ⟨B, hB⟩ : ∃ B, List.replicate 512 (0 : UInt8) = B := ⟨_, rfl⟩
  have hBl : B.length = 512 := by rw [← hB, List.length_replicate]
  have hBB : DiskM.blank = B := hB
  rw [hBB] at hld hOn hnb
  generalize hs0 : LogM.ofPages f (List.replicate k B) = l0 at *
  generalize hd0 : DiskM.new (f + k + 1) = d0 at *
  clear hs0 hd0 hBB
  have hms := make_strs w2 k (by omega)
  obtain ⟨X, hX⟩ : ∃ X, X = M + D + L + 1 := ⟨_, rfl⟩
  have hsm := (Step.refl Nobody w2 o2).alloc (.cells (tvs (List.replicate k [])).toArray 9) (X, 0)
  have hgp := heap_alloc_new w2 (.cells (tvs (List.replicate k [])).toArray 9)
  have hog : tagAt o2 w2.heap.size (X, 0) w2.heap.size = (X, 0) := tagAt_same _ _ _
  have hgw : w.heap.size ≤ w2.heap.size := hst.size
  obtain ⟨W3, hW3⟩ : ∃ W3, w2.alloc (.cells (tvs (List.replicate k [])).toArray 9) = W3 := ⟨_, rfl⟩
  rw [hW3] at hms hsm hgp
  generalize tagAt o2 w2.heap.size (X, 0) = o3 at *
  generalize w2.heap.size = gp at *
  have hmsH := hidden hms
  have hld := hld.step hsm (nn _) (nn _) (nn _)
  have hst := hst.trans hsm.above0
  have hBH := hidden hB
  have hBlH := hidden hBl
  clear hms hsm hW3 hB hBl
  go_wp2_with ((with_reducible apply lit_makeSlice); exact hmsH.out; simp only [Act.put, List.setIfInBounds_toArray, List.set_cons_zero, List.set_cons_succ])
  go_loopw [14] (fun i wr => ∃ (j : Nat) (oj : Own), j ≤ k ∧ i = .int .i64 j ∧ wr.heap[gp]? = some (.cells (tvs (List.replicate j B ++ List.replicate (k - j) [])).toArray 9 (0, 0)) ∧ oj gp = (X, 0) ∧ LD wr oj L D px pd (l0, d0) ∧ Step (Above M) w o wr oj)
    (fun i _ => k - (intOf i).toNat)
  case atStart => exact ⟨0, o3, by omega, rfl, by simpa using hgp, hog, hld, hst⟩
  case round =>
    clear hgp hog hld hst
    obtain ⟨j, oj, hj, rfl, hgp, hog, hld, hst⟩ := hrel
    by_cases hlt : j < k
    · have hmk := make_bytes wr 512 (by omega)
      rw [hBH.out] at hmk
      have hby := bytes_new wr oj B (by rw [hBlH.out]; omega)
      rw [hBlH.out] at hby
      have hcv := conv_string hby
      have hsa := (Step.refl Nobody wr oj).alloc (.cells (bvs B).toArray 5) (0, 0)
      have hglt := lt_of_block hgp
      have hgp2 : (wr.alloc (.cells (bvs B).toArray 5)).heap[gp]? = _ := (Below.heap_alloc _ _ _ hglt).trans hgp
      have hog2 : tagAt oj wr.heap.size (0, 0) gp = (X, 0) := by rw [tagAt_other _ _ (by omega)]; exact hog
      obtain ⟨W4, hW4⟩ : ∃ W4, wr.alloc (.cells (bvs B).toArray 5) = W4 := ⟨_, rfl⟩
      rw [hW4] at hmk hcv hsa hgp2
      generalize tagAt oj wr.heap.size (0, 0) = o4 at *
      generalize wr.heap.size = gb at *
      have hcg := cell_of_block hgp2 j
      have hfg := free_of_block hgp2 j
      obtain ⟨z, hz⟩ : ∃ z, (tvs (List.replicate j B ++ List.replicate (k - j) []))[j]? = some z := ⟨_, List.getElem?_eq_getElem (by simp [tvs]; omega)⟩
      rw [hz] at hcg
      have hset := (Step.refl (Only X) W4 o4).setCell (a := ⟨gp, j, none⟩) (.string ⟨B.toArray⟩) (.inl (by show (o4 gp).1 = X; rw [hog2]))
      have hgp3 := heap_setCell_at (i := j) (.string ⟨B.toArray⟩) hgp2
      rw [fill_pages k j B hlt] at hgp3
      have hld := (hld.step hsa (nn _) (nn _) (nn _)).step hset (fun h => by change L = X at h; omega) (fun h => by change D = X at h; omega) (fun h => by change 0 = X at h; omega)
      have hst := (hst.trans hsa.above0).setCell (a := ⟨gp, j, none⟩) (.string ⟨B.toArray⟩) (.inr hgw)
      have hmkH := hidden hmk
      have hcvH := hidden hcv
      have hH := hidden (And.intro hgp3 (And.intro hog2 (And.intro hld hst)))
      clear hmk hcv hby hsa hgp2 hog2 hW4 hset hgp3 hld hst hz hgp hog hglt
      go_wp2_with (first
        | ((with_reducible apply lit_makeSlice); exact hmkH.out; simp only [Act.put, List.setIfInBounds_toArray, List.set_cons_zero, List.set_cons_succ])
        | ((with_reducible apply lit_convert); exact hcvH.out; simp only [Act.put, List.setIfInBounds_toArray, List.set_cons_zero, List.set_cons_succ]))
      go_roundw
      case rel => exact ⟨j + 1, o4, by omega, by go_num, hH.out.1, hH.out.2.1, hH.out.2.2.1, hH.out.2.2.2⟩
      case measure => simp [intOf]; omega
    · obtain rfl : k = j := by omega
      rw [Nat.sub_self, List.replicate_zero, List.append_nil] at hgp
      obtain ⟨E, hEb, hEf⟩ := fresh_tag oj wr.heap.size (M + D + L)
      have hE0 : E ≠ 0 := by omega
      have hro := ropen_at (E' := E) (R := List.replicate k B) (cap := k) hgp (by rw [List.take_of_length_le (by simp [tvs])]) (by simp) (by simp [maxLen]; omega) (by simp; omega) (by simp; omega) (fun q hq => by rw [List.eq_of_mem_replicate hq, hBlH.out]) hE0 hEf
      rw [List.length_replicate] at hro
      have hroH := hidden hro
      clear hro hEf hgp hog
      go_wp2_with fail
      refine hroH.out.mono ?_; rintro e w5 ⟨v, o5, rfl, hs, hop⟩
      obtain ⟨pr, -, rfl, hrl⟩ := hop.2 (by rw [hnb]; decide)
      have hld := hld.step hs (nn _) (nn _) (nn _)
      have hst := hst.trans hs.above0
      have hOn0 : LogM.On f k (f + k + 1) (l0, d0) (List.replicate k B) := hOn.out
      have hbnd : (LogM.newest (List.replicate k B)).toNat ≤ LogM.top + 2 * 0 := by rw [hnb]; simp
      clear hs hop hroH hOn hgw hj hlt
      generalize List.replicate k B = R0 at *
      clear hnb
      go_wp2_with fail
      have hrow0 : d0.row.length ≤ 0 := hrw0
      clear hrw0 hX
      go_loopw [11, 15, 17] (fun xv rv i wr => ∃ (j : Nat) (oj : Own) (E px pr : Nat) (s : LogM × DiskM) (R : List (List UInt8)), j ≤ ll ∧ i = .int .i64 j ∧ xv = .pointer (some ⟨px, 0, none⟩) ∧ rv = .pointer (some ⟨pr, 0, none⟩) ∧
          LD wr oj L D px pd s ∧ RefL wr oj E pr R (LogM.newest R) ∧ Step (Above M) w o wr oj ∧ M + D + L < E ∧ Hid (LogM.On f k (f + k + 1) s R) ∧ Hid ((LogM.newest R).toNat ≤ LogM.top + 2 * j) ∧ Hid (s.2.row.length ≤ j))
        (fun _ _ i _ => ll - (intOf i).toNat)
      case atStart => exact ⟨0, o5, E, px, pr, (l0, d0), R0, Nat.zero_le _, rfl, rfl, rfl, hld, hrl, hst, hEb, hidden hOn0, hidden hbnd, hidden hrow0⟩
      case round =>
        clear hld hrl hst hOn0 hbnd hrow0 hE0 hEb E
        obtain ⟨j, oj, E, px, pr, s, R, hj, rfl, rfl, rfl, hld, hrl, hst, mE, hOn, hbn, hrw⟩ := hrel
        by_cases hlt : j < ll
        · have hac := hlH.out.step hst hT0
          obtain ⟨bq, off, haE, hok, hrg⟩ := hac.at j (by rw [hllH.out]; exact hlt)
          subst haE
          obtain ⟨t, ht⟩ : ∃ t : Act8, l[j]'(by rw [hllH.out]; exact hlt) = t := ⟨_, rfl⟩
          rw [ht] at hok hrg
          obtain ⟨dv, tb, tv, ta⟩ := t
          obtain ⟨⟨hx0, hx1⟩, ⟨hy0, hy1⟩, hz0, hz1⟩ := hok
          simp only at hx0 hx1 hy0 hy1 hz0 hz1
          obtain ⟨dn, rfl⟩ := Int.eq_ofNat_of_zero_le hx0
          obtain ⟨tn, rfl⟩ := Int.eq_ofNat_of_zero_le hy0
          have hld65 := hidden (load65 hrg)
          have hal := hidden (run_alloc_zero (P := Try.prog) wr 65 _ zc65)
          have hsw := setCells_alloc_whole wr #[.int .u8 0, .int .u8 0, .int .u16 0, .int .i64 0] 65 (Act8.cells ⟨(dn : Int), tb, (tn : Int), ta⟩) rfl
          obtain ⟨hso, -⟩ := run_store_agg (P := Try.prog) (ty := 65) (vs := Act8.cells ⟨(dn : Int), tb, (tn : Int), ta⟩) (heap_alloc_new wr (.cells [.int .u8 0, .int .u8 0, .int .u16 0, .int .i64 0].toArray 65)) rfl (by kernel_rfl) rfl
          rw [hsw] at hso
          have hsoH := hidden hso
          have hsa := (Step.refl Nobody wr oj).alloc (.cells (Act8.cells ⟨(dn : Int), tb, (tn : Int), ta⟩).toArray 65) (0, 0)
          have hab : (wr.alloc (.cells (Act8.cells ⟨(dn : Int), tb, (tn : Int), ta⟩).toArray 65)).heap[wr.heap.size]? = some (.cells (Act8.cells ⟨(dn : Int), tb, (tn : Int), ta⟩).toArray 65 (0, 0)) := heap_alloc_new wr _
          have hao : tagAt oj wr.heap.size (0, 0) wr.heap.size = (0, 0) := tagAt_same _ _ _
          have hld := hld.step hsa (nn _) (nn _) (nn _)
          have hrl := hrl.step hsa (nn _)
          have hst := hst.trans hsa.above0
          clear hsw hso hrg ht hsa hac hx0 hy0
          obtain ⟨ab, habE⟩ : ∃ ab, wr.heap.size = ab := ⟨_, rfl⟩
          obtain ⟨W1, hW1⟩ : ∃ W1, wr.alloc (.cells (Act8.cells ⟨(dn : Int), tb, (tn : Int), ta⟩).toArray 65) = W1 := ⟨_, rfl⟩
          rw [hW1] at hsoH hab hld hrl hst
          rw [habE] at hab hao hld hrl hst
          generalize tagAt oj ab (0, 0) = O1 at *
          have habH := hidden habE
          have c0 : W1.cell? ⟨ab, 0, none⟩ = some (.int .u8 (dn : Int)) := cell_of_block hab 0
          have c3 : W1.cell? ⟨ab, 3, none⟩ = some (.int .i64 ta) := cell_of_block hab 3
          have hd1 : (0 : Int) ≤ (dn : Int) ∧ (dn : Int) ≤ 255 := by omega
          rw [← habE] at c0 c3
          have hr4 : (dn : Int) % 4 = 0 ∨ (dn : Int) % 4 = 1 ∨ (dn : Int) % 4 = 2 ∨ (dn : Int) % 4 = 3 := by omega
          clear hW1 habE hx1
          rcases hr4 with hr4 | hr4 | hr4 | hr4
          · clear c3
            go_wp2_with (first
              | ((with_reducible apply lit_load); exact hld65.out; simp only [Act.put, List.setIfInBounds_toArray, List.set_cons_zero, List.set_cons_succ])
              | ((with_reducible apply lit_alloc); exact hal.out; simp only [Act.put, List.setIfInBounds_toArray, List.set_cons_zero, List.set_cons_succ])
              | ((with_reducible apply lit_store); exact hsoH.out; simp only [Act.put]))
            rw [habH.out]
            have hbyH := hidden (fun (W : World) (O : Own) => bytes8_any (.int .u8 (dn : Int)) tb (tn : Int) ⟨by omega, hy1⟩ (.int .i64 ta) W O)
            clear c0 hsoH hal hld65 habH
            refine wp_region_need (fun w' => w'.heap[ab]? = some (.cells (Act8.cells ⟨(dn : Int), tb, (tn : Int), ta⟩).toArray 65 (0, 0))) (fun _ => true) (by kernel_rfl) hab (fun hHeld => ?_)
            refine wpAnyN_take (i := 0) (v := ?_) rfl (by kernel_rfl) (by kernel_rfl) (by kernel_rfl) (by kernel_rfl) (fun _ _ _ h => h) (Or.inl ⟨by rfl, ?_⟩) (by assumption) ?_
            rotate_left
            · intro w hSw; ((try dsimp only at hSw); go_simp; (try with_reducible rfl))
            simp only [Act.put, List.setIfInBounds_toArray, List.set_cons_zero, List.set_cons_succ]
            refine wpAnyN_take (i := 1) (v := .agg (Act8.cells ⟨(dn : Int), tb, (tn : Int), ta⟩).toArray) rfl (by kernel_rfl) (by kernel_rfl) (by kernel_rfl) (by kernel_rfl) (fun _ _ _ h => h) (yieldsIf_load_mid rfl 65 (.tmp 18) rfl ab 0 rfl (Act8.cells ⟨(dn : Int), tb, (tn : Int), ta⟩) _ (fun w h => range_whole h) Try.underlying65 rfl (by kernel_rfl)) (by assumption) ?_
            simp only [Act.put, List.setIfInBounds_toArray, List.set_cons_zero, List.set_cons_succ]
            refine wpAnyN_take (i := 4) (v := ?_) rfl (by kernel_rfl) (by kernel_rfl) (by kernel_rfl) (by kernel_rfl) (fun _ _ _ h => h) (Or.inl ⟨by rfl, ?_⟩) (by assumption) ?_
            rotate_left
            · intro w hSw; ((try dsimp only at hSw); go_simp; (try with_reducible rfl))
            simp only [Act.put, List.setIfInBounds_toArray, List.set_cons_zero, List.set_cons_succ]
            refine wpAnyN_take (i := 5) (v := .agg (Act8.cells ⟨(dn : Int), tb, (tn : Int), ta⟩).toArray) rfl (by kernel_rfl) (by kernel_rfl) (by kernel_rfl) (by kernel_rfl) (fun _ _ _ h => h) (yieldsIf_load_mid rfl 65 (.tmp 18) rfl ab 0 rfl (Act8.cells ⟨(dn : Int), tb, (tn : Int), ta⟩) _ (fun w h => range_whole h) Try.underlying65 rfl (by kernel_rfl)) (by assumption) ?_
            simp only [Act.put, List.setIfInBounds_toArray, List.set_cons_zero, List.set_cons_succ]
            refine wpAnyN_one (i := 2) rfl (by kernel_rfl) ?_
            go_wp2_with fail
            refine (hbyH.out _ O1).mono ?_; rintro e w2 ⟨v2, o2, rfl, hs2, g, rfl, hb⟩
            have hs2 : Step Nobody W1 O1 w2 o2 := (Step.refl Nobody W1 O1).drew.trans hs2
            have hab2 := (hs2.block ab (lt_of_block hab) (nn _)).trans hab
            have hao2 := (hs2.own ab (lt_of_block hab)).trans hao
            obtain ⟨q, hq⟩ : ∃ q, ((tn : Int) % 3000).toNat = q := ⟨_, rfl⟩
            have hq3 : q ≤ 2999 := by omega
            have hqH := hidden hq
            rw [hq] at hb ⊢
            obtain ⟨tx, htx⟩ : ∃ tx, fillM tb q = tx := ⟨_, rfl⟩
            have htl : tx.length = q := by rw [← htx, length_fillM]
            have htlH := hidden htl
            have htxH := hidden htx
            rw [htx] at hb
            have hcap : capLe (.slice (some ⟨g, 0, none⟩) q q) := fun a n c h => by cases h; omega
            have hld := hld.step hs2 (nn _) (nn _) (nn _)
            have hrl := hrl.step hs2 (nn _)
            have hst := hst.trans hs2.above0
            have htop : LogM.top + 2 * 40 + 2 < 2 ^ 64 := by unfold LogM.top; omega
            obtain ⟨s', hc, hOn', hS', hrw', hbn'⟩ := hOn.out.commit tx (by unfold LogM.many; omega) (by have := hbn.out; omega)
            have hrc := fun (W : World) (O : Own) (hr : RefL W O E pr R (LogM.newest R)) => rcommit_any hr (by omega) tx (by omega)
            obtain ⟨qq, hqq⟩ : ∃ qq, rcommit tx R (LogM.newest R) = qq := ⟨_, rfl⟩
            rw [hqq] at hc hOn' hS' hbn'
            simp only [hqq] at hrc
            obtain ⟨⟨R', S'⟩, er⟩ := qq
            simp only at hc hOn' hS' hbn' hrc
            subst hS'
            have hcm := commit_is hL0 hD0 hLD hld (by have := hrw.out; omega) tx _ hb hcap (by omega) hc
            have hcmH := hidden hcm
            have hrcH := hidden hrc
            have hOn' := hidden hOn'
            have hrw' : Hid (s'.2.row.length ≤ j + 1) := hidden (by have := hrw.out; omega)
            have hbn' : Hid ((LogM.newest R').toNat ≤ LogM.top + 2 * (j + 1)) := hidden (by have := hbn.out; omega)
            clear hq htx htl hb hcm hrc hqq hc hs2 htop hHeld
            go_wp2_with fail
            refine ⟨fun _ => hab2, ?_⟩
            refine wpAnyN_one (i := 3) rfl (by kernel_rfl) ?_
            go_wp2_with fail
            refine hcmH.out.mono ?_; rintro e w3 ⟨v3, o3, rfl, hs3, rfl, hld⟩
            have hab3 := (hs3.block ab (lt_of_block hab2) (by rw [hao2]; exact nI0)).trans hab2
            have hao3 := (hs3.own ab (lt_of_block hab2)).trans hao2
            have hrl := hrl.step hs3 (fun h => by rcases h with h | h <;> omega)
            have hst := hst.trans (hs3.above2 mL mD)
            clear hs3 hcmH
            go_wp2_with fail
            refine ⟨fun _ => hab3, ?_⟩
            refine wpAnyN_one (i := 6) rfl (by kernel_rfl) ?_
            go_wp2_with fail
            refine (hbyH.out _ o3).mono ?_; rintro e w4 ⟨v4, o4, rfl, hs4, g4, rfl, hb4⟩
            have hab4 := (hs4.block ab (lt_of_block hab3) (nn _)).trans hab3
            have hao4 := (hs4.own ab (lt_of_block hab3)).trans hao3
            have hld := hld.step hs4 (nn _) (nn _) (nn _)
            have hrl := hrl.step hs4 (nn _)
            have hst := hst.trans hs4.above0
            rw [hqH.out] at hb4 ⊢
            rw [htxH.out] at hb4
            have hcv := conv_string hb4
            have hcvH := hidden hcv
            clear hs4 hb4 hcv
            go_wp2_with fail
            refine ⟨fun _ => hab4, ?_⟩
            refine wpAnyN_one (i := 7) rfl (by kernel_rfl) ?_
            refine lit_convert hcvH.out ?_
            refine wpList_nil ?_
            simp only [Act.put, List.setIfInBounds_toArray, List.set_cons_zero, List.set_cons_succ]
            refine ⟨fun _ => hab4, ?_⟩
            refine wpAnyN_one (i := 8) rfl (by kernel_rfl) ?_
            go_wp2_with fail
            refine (hrcH.out _ _ hrl).mono ?_; rintro e w5 ⟨v5, o5, rfl, hs5, rfl, hrl⟩
            have hE0 : ¬ Only E 0 := fun h => by change _ = _ at h; omega
            have hab5 := (hs5.block ab (lt_of_block hab4) (fun h => by rw [hao4] at h; exact hE0 h)).trans hab4
            have hld := hld.step hs5 (fun h => by change _ = _ at h; omega) (fun h => by change _ = _ at h; omega) hE0
            have hst := hst.trans (hs5.above1 (by omega))
            clear hs5 hrcH hcvH
            go_wp2_with fail
            refine ⟨fun _ => hab5, ?_⟩
            refine wpAnyN_take (i := 9) (v := ?_) rfl (by kernel_rfl) (by kernel_rfl) (by kernel_rfl) (by kernel_rfl) (fun _ _ _ h => h) (Or.inl ⟨by rfl, ?_⟩) (by assumption) ?_
            rotate_left
            · intro w hSw; ((try dsimp only at hSw); go_simp; (try with_reducible rfl))
            simp only [Act.put, List.setIfInBounds_toArray, List.set_cons_zero, List.set_cons_succ]
            refine wpAnyN_take (i := 10) (v := ?_) rfl (by kernel_rfl) (by kernel_rfl) (by kernel_rfl) (by kernel_rfl) (fun _ _ _ h => h) (Or.inl ⟨by rfl, ?_⟩) (by assumption) ?_
            rotate_left
            · intro w hSw; ((try dsimp only at hSw); go_simp; (try with_reducible rfl))
            simp only [Act.put, List.setIfInBounds_toArray, List.set_cons_zero, List.set_cons_succ]
            refine wpAnyN_done (by kernel_rfl) ?_ _
            clear hab hab2 hab3 hab4 hab5
            have hsame := same_any hld hrl f (by omega) hOn'.out.recs.1 hOn'.out.recs.2 (Nat.le_trans hrw'.out (by omega)) (fun i hi => hOn'.out.read i hi)
            have hsameH := hidden hsame
            clear hsame
            go_wp2_with fail
            refine hsameH.out.mono ?_; rintro e w8 ⟨v8, o8, rfl, hs, rfl⟩
            have hld := hld.step hs (nn _) (nn _) (nn _)
            have hrl := hrl.step hs (nn _)
            have hst := hst.trans hs.above0
            clear hs hsameH
            go_wp2_with fail
            go_roundw
            case rel => exact ⟨j + 1, o8, E, px, pr, s', R', by omega, by go_num, rfl, rfl, hld, hrl, hst, mE, hOn', hbn', hrw'⟩
            case measure => simp [intOf]; omega
          · clear c3
            have htop : LogM.top + 2 * 40 + 2 < 2 ^ 64 := by unfold LogM.top; omega
            obtain ⟨s', hc, hOn', hS', hrw'⟩ := hOn.out.reset (by have := hbn.out; omega)
            have hnx := LogM.next_nat (S := LogM.newest R) (by have := hbn.out; omega)
            have hcmH := hidden (reset_is hL0 hD0 hLD hld (by have := hrw.out; omega) hc)
            have hrcH := hidden (fun (W : World) (O : Own) (hr : RefL W O E pr R (LogM.newest R)) => rreset_any hr (by omega))
            have hrw' : Hid (s'.2.row.length ≤ j + 1) := hidden (by rw [hrw']; simp)
            have hbn' : Hid ((LogM.newest (LogM.headPages R (LogM.newest R + 1#64))).toNat ≤ LogM.top + 2 * (j + 1)) := hidden (by rw [hS']; have := hbn.out; omega)
            have hOn' := hidden hOn'
            have hSH := hidden hS'
            clear htop hc hnx hS' hab hao
            go_wp2_with (first
              | ((with_reducible apply lit_load); exact hld65.out; simp only [Act.put, List.setIfInBounds_toArray, List.set_cons_zero, List.set_cons_succ])
              | ((with_reducible apply lit_alloc); exact hal.out; simp only [Act.put, List.setIfInBounds_toArray, List.set_cons_zero, List.set_cons_succ])
              | ((with_reducible apply lit_store); exact hsoH.out; simp only [Act.put]))
            refine hcmH.out.mono ?_; rintro e w3 ⟨v3, o3, rfl, hs3, rfl, hld⟩
            have hrl := hrl.step hs3 (fun h => by rcases h with h | h <;> omega)
            have hst := hst.trans (hs3.above2 mL mD)
            clear hs3 hcmH c0 hsoH hal hld65 habH
            go_wp2_with fail
            refine (hrcH.out _ _ hrl).mono ?_; rintro e w5 ⟨v5, o5, rfl, hs5, rfl, hrl⟩
            have hld := hld.step hs5 (fun h => by change _ = _ at h; omega) (fun h => by change _ = _ at h; omega) (fun h => by change _ = _ at h; omega)
            have hst := hst.trans (hs5.above1 (by omega))
            have hrl := hrl.grow rfl hSH.out.symm
            clear hs5 hrcH
            have hsame := same_any hld hrl f (by omega) hOn'.out.recs.1 hOn'.out.recs.2 (Nat.le_trans hrw'.out (by omega)) (fun i hi => hOn'.out.read i hi)
            have hsameH := hidden hsame
            clear hsame
            go_wp2_with fail
            refine hsameH.out.mono ?_; rintro e w8 ⟨v8, o8, rfl, hs, rfl⟩
            have hld := hld.step hs (nn _) (nn _) (nn _)
            have hrl := hrl.step hs (nn _)
            have hst := hst.trans hs.above0
            clear hs hsameH
            go_wp2_with fail
            go_roundw
            case rel => exact ⟨j + 1, o8, E, px, pr, s', (LogM.headPages R (LogM.newest R + 1#64)), by omega, by go_num, rfl, rfl, hld, hrl, hst, mE, hOn', hbn', hrw'⟩
            case measure => simp [intOf]; omega
          · clear c3
            have hOd := hidden hOn.out.disk
            have hse := hidden hOn.out.see
            have hRl := hidden hOn.out.len
            have hrk : Hid (s.2.row.length ≤ j + 1) := hidden (by have := hrw.out; omega)
            have hbk : Hid (LogM.newest R ≠ BitVec.allOnes 64 → (LogM.newest R).toNat ≤ LogM.top + 2 * (j + 1)) := hidden (fun _ => by have := hbn.out; omega)
            have hdk := hld.2
            clear hab hao
            go_wp2_with (first
              | ((with_reducible apply lit_load); exact hld65.out; simp only [Act.put, List.setIfInBounds_toArray, List.set_cons_zero, List.set_cons_succ])
              | ((with_reducible apply lit_alloc); exact hal.out; simp only [Act.put, List.setIfInBounds_toArray, List.set_cons_zero, List.set_cons_succ])
              | ((with_reducible apply lit_store); exact hsoH.out; simp only [Act.put]))
            clear c0 hsoH hal hld65 habH hld
            have hxH := hidden (open_yes hL0 hD0 hLD hdk (by have := hrk.out; omega) hOd.out.dd f k hk2 (by omega) (by rw [hOd.out.len]; omega))
            rw [hse.out] at hxH
            go_wp2_with fail
            refine hxH.out.mono ?_; rintro e w6 ⟨v6, o6, rfl, hs, hop⟩
            have hrl := hrl.step hs (fun h => by change _ = _ at h; omega)
            have hdk := hdk.step hs nLD
            have hst := hst.trans (hs.above1 mL)
            obtain ⟨E', hEb, hEf'⟩ := fresh_tag o6 w6.heap.size (M + D + L)
            obtain ⟨g6, cap6, c6, hro⟩ := hrl.reopen (E' := E') (by omega) hEf'
            rw [hRl.out] at c6 hro
            have hroH := hidden hro
            clear hs hro hEf' hrl hxH
            by_cases hff : LogM.newest R = BitVec.allOnes 64
            · obtain rfl := hop.1 hff
              have hffH := hidden hff
              clear hop hff
              go_wp2_with fail
              refine hroH.out.mono ?_; rintro e w7 ⟨v7, o7, rfl, hs7, hop7⟩
              obtain rfl := hop7.1 hffH.out
              have hst := hst.trans hs7.above0
              have hwk := wakes8_any w7 o7
              clear hs7 hop7 hroH
              go_wp2_with fail
              refine hwk.mono ?_; rintro e w9 ⟨v9, o9, rfl, hs, rfl⟩
              have hst := (hst.trans hs.above0).noneAbove hM
              clear hwk hs
              go_wp2_with fail
              go_ret
              exact ⟨_, o9, rfl, hst, rfl⟩
            · obtain ⟨px', -, rfl, hla⟩ := hop.2 hff
              have hffH := hidden hff
              clear hop hff
              go_wp2_with fail
              refine hroH.out.mono ?_; rintro e w7 ⟨v7, o7, rfl, hs7, hop7⟩
              obtain ⟨pr', -, rfl, hrl⟩ := hop7.2 hffH.out
              have hla := hla.step hs7 (nn _) (nn _)
              have hdk := hdk.step hs7 (nn _)
              have hld : LD w7 o7 L D px' pd (LogM.ofPages f R, s.2) := ⟨hla, hdk⟩
              have hst := hst.trans hs7.above0
              have hOn' := hidden (hOn.out.open hOd.out hse.out)
              have hbn' := hidden (hbk.out hffH.out)
              have hrw' : Hid ((s.2 : DiskM).row.length ≤ j + 1) := hrk
              clear hs7 hop7 hroH hla hdk
              have hsame := same_any hld hrl f (by omega) hOn'.out.recs.1 hOn'.out.recs.2 (Nat.le_trans hrw'.out (by omega)) (fun i hi => hOn'.out.read i hi)
              have hsameH := hidden hsame
              clear hsame
              go_wp2_with fail
              refine hsameH.out.mono ?_; rintro e w8 ⟨v8, o8, rfl, hs, rfl⟩
              have hld := hld.step hs (nn _) (nn _) (nn _)
              have hrl := hrl.step hs (nn _)
              have hst := hst.trans hs.above0
              clear hs hsameH
              go_wp2_with fail
              go_roundw
              case rel => exact ⟨j + 1, o8, E', px', pr', (LogM.ofPages f R, s.2), R, by omega, by go_num, rfl, rfl, hld, hrl, hst, hEb, hOn', hbn', hrw'⟩
              case measure => simp [intOf]; omega
          · by_cases hta : ta < 0
            · skip
              have hOd := hidden hOn.out.disk
              have hse := hidden hOn.out.see
              have hRl := hidden hOn.out.len
              have hrk : Hid (s.2.row.length ≤ j + 1) := hidden (by have := hrw.out; omega)
              have hbk : Hid (LogM.newest R ≠ BitVec.allOnes 64 → (LogM.newest R).toNat ≤ LogM.top + 2 * (j + 1)) := hidden (fun _ => by have := hbn.out; omega)
              have hdk := hld.2
              clear hab hao
              go_wp2_with (first
                | ((with_reducible apply lit_load); exact hld65.out; simp only [Act.put, List.setIfInBounds_toArray, List.set_cons_zero, List.set_cons_succ])
                | ((with_reducible apply lit_alloc); exact hal.out; simp only [Act.put, List.setIfInBounds_toArray, List.set_cons_zero, List.set_cons_succ])
                | ((with_reducible apply lit_store); exact hsoH.out; simp only [Act.put]))
              clear c0 hsoH hal hld65 habH hld
              have hxH := hidden (open_yes hL0 hD0 hLD hdk (by have := hrk.out; omega) hOd.out.dd f k hk2 (by omega) (by rw [hOd.out.len]; omega))
              rw [hse.out] at hxH
              go_wp2_with fail
              refine hxH.out.mono ?_; rintro e w6 ⟨v6, o6, rfl, hs, hop⟩
              have hrl := hrl.step hs (fun h => by change _ = _ at h; omega)
              have hdk := hdk.step hs nLD
              have hst := hst.trans (hs.above1 mL)
              obtain ⟨E', hEb, hEf'⟩ := fresh_tag o6 w6.heap.size (M + D + L)
              obtain ⟨g6, cap6, c6, hro⟩ := hrl.reopen (E' := E') (by omega) hEf'
              rw [hRl.out] at c6 hro
              have hroH := hidden hro
              clear hs hro hEf' hrl hxH
              by_cases hff : LogM.newest R = BitVec.allOnes 64
              · obtain rfl := hop.1 hff
                have hffH := hidden hff
                clear hop hff
                go_wp2_with fail
                refine hroH.out.mono ?_; rintro e w7 ⟨v7, o7, rfl, hs7, hop7⟩
                obtain rfl := hop7.1 hffH.out
                have hst := hst.trans hs7.above0
                have hwk := wakes8_any w7 o7
                clear hs7 hop7 hroH
                go_wp2_with fail
                refine hwk.mono ?_; rintro e w9 ⟨v9, o9, rfl, hs, rfl⟩
                have hst := (hst.trans hs.above0).noneAbove hM
                clear hwk hs
                go_wp2_with fail
                go_ret
                exact ⟨_, o9, rfl, hst, rfl⟩
              · obtain ⟨px', -, rfl, hla⟩ := hop.2 hff
                have hffH := hidden hff
                clear hop hff
                go_wp2_with fail
                refine hroH.out.mono ?_; rintro e w7 ⟨v7, o7, rfl, hs7, hop7⟩
                obtain ⟨pr', -, rfl, hrl⟩ := hop7.2 hffH.out
                have hla := hla.step hs7 (nn _) (nn _)
                have hdk := hdk.step hs7 (nn _)
                have hld : LD w7 o7 L D px' pd (LogM.ofPages f R, s.2) := ⟨hla, hdk⟩
                have hst := hst.trans hs7.above0
                have hOn' := hidden (hOn.out.open hOd.out hse.out)
                have hbn' := hidden (hbk.out hffH.out)
                have hrw' : Hid ((s.2 : DiskM).row.length ≤ j + 1) := hrk
                clear hs7 hop7 hroH hla hdk
                have hsame := same_any hld hrl f (by omega) hOn'.out.recs.1 hOn'.out.recs.2 (Nat.le_trans hrw'.out (by omega)) (fun i hi => hOn'.out.read i hi)
                have hsameH := hidden hsame
                clear hsame
                go_wp2_with fail
                refine hsameH.out.mono ?_; rintro e w8 ⟨v8, o8, rfl, hs, rfl⟩
                have hld := hld.step hs (nn _) (nn _) (nn _)
                have hrl := hrl.step hs (nn _)
                have hst := hst.trans hs.above0
                clear hs hsameH
                go_wp2_with fail
                go_roundw
                case rel => exact ⟨j + 1, o8, E', px', pr', (LogM.ofPages f R, s.2), R, by omega, by go_num, rfl, rfl, hld, hrl, hst, hEb, hOn', hbn', hrw'⟩
                case measure => simp [intOf]; omega
            · by_cases htk : (k : Int) ≤ ta
              · skip
                have hOd := hidden hOn.out.disk
                have hse := hidden hOn.out.see
                have hRl := hidden hOn.out.len
                have hrk : Hid (s.2.row.length ≤ j + 1) := hidden (by have := hrw.out; omega)
                have hbk : Hid (LogM.newest R ≠ BitVec.allOnes 64 → (LogM.newest R).toNat ≤ LogM.top + 2 * (j + 1)) := hidden (fun _ => by have := hbn.out; omega)
                have hdk := hld.2
                clear hab hao
                go_wp2_with (first
                  | ((with_reducible apply lit_load); exact hld65.out; simp only [Act.put, List.setIfInBounds_toArray, List.set_cons_zero, List.set_cons_succ])
                  | ((with_reducible apply lit_alloc); exact hal.out; simp only [Act.put, List.setIfInBounds_toArray, List.set_cons_zero, List.set_cons_succ])
                  | ((with_reducible apply lit_store); exact hsoH.out; simp only [Act.put]))
                clear c0 hsoH hal hld65 habH hld
                have hxH := hidden (open_yes hL0 hD0 hLD hdk (by have := hrk.out; omega) hOd.out.dd f k hk2 (by omega) (by rw [hOd.out.len]; omega))
                rw [hse.out] at hxH
                go_wp2_with fail
                refine hxH.out.mono ?_; rintro e w6 ⟨v6, o6, rfl, hs, hop⟩
                have hrl := hrl.step hs (fun h => by change _ = _ at h; omega)
                have hdk := hdk.step hs nLD
                have hst := hst.trans (hs.above1 mL)
                obtain ⟨E', hEb, hEf'⟩ := fresh_tag o6 w6.heap.size (M + D + L)
                obtain ⟨g6, cap6, c6, hro⟩ := hrl.reopen (E' := E') (by omega) hEf'
                rw [hRl.out] at c6 hro
                have hroH := hidden hro
                clear hs hro hEf' hrl hxH
                by_cases hff : LogM.newest R = BitVec.allOnes 64
                · obtain rfl := hop.1 hff
                  have hffH := hidden hff
                  clear hop hff
                  go_wp2_with fail
                  refine hroH.out.mono ?_; rintro e w7 ⟨v7, o7, rfl, hs7, hop7⟩
                  obtain rfl := hop7.1 hffH.out
                  have hst := hst.trans hs7.above0
                  have hwk := wakes8_any w7 o7
                  clear hs7 hop7 hroH
                  go_wp2_with fail
                  refine hwk.mono ?_; rintro e w9 ⟨v9, o9, rfl, hs, rfl⟩
                  have hst := (hst.trans hs.above0).noneAbove hM
                  clear hwk hs
                  go_wp2_with fail
                  go_ret
                  exact ⟨_, o9, rfl, hst, rfl⟩
                · obtain ⟨px', -, rfl, hla⟩ := hop.2 hff
                  have hffH := hidden hff
                  clear hop hff
                  go_wp2_with fail
                  refine hroH.out.mono ?_; rintro e w7 ⟨v7, o7, rfl, hs7, hop7⟩
                  obtain ⟨pr', -, rfl, hrl⟩ := hop7.2 hffH.out
                  have hla := hla.step hs7 (nn _) (nn _)
                  have hdk := hdk.step hs7 (nn _)
                  have hld : LD w7 o7 L D px' pd (LogM.ofPages f R, s.2) := ⟨hla, hdk⟩
                  have hst := hst.trans hs7.above0
                  have hOn' := hidden (hOn.out.open hOd.out hse.out)
                  have hbn' := hidden (hbk.out hffH.out)
                  have hrw' : Hid ((s.2 : DiskM).row.length ≤ j + 1) := hrk
                  clear hs7 hop7 hroH hla hdk
                  have hsame := same_any hld hrl f (by omega) hOn'.out.recs.1 hOn'.out.recs.2 (Nat.le_trans hrw'.out (by omega)) (fun i hi => hOn'.out.read i hi)
                  have hsameH := hidden hsame
                  clear hsame
                  go_wp2_with fail
                  refine hsameH.out.mono ?_; rintro e w8 ⟨v8, o8, rfl, hs, rfl⟩
                  have hld := hld.step hs (nn _) (nn _) (nn _)
                  have hrl := hrl.step hs (nn _)
                  have hst := hst.trans hs.above0
                  clear hs hsameH
                  go_wp2_with fail
                  go_roundw
                  case rel => exact ⟨j + 1, o8, E', px', pr', (LogM.ofPages f R, s.2), R, by omega, by go_num, rfl, rfl, hld, hrl, hst, hEb, hOn', hbn', hrw'⟩
                  case measure => simp [intOf]; omega
              · obtain ⟨p, rfl⟩ := Int.eq_ofNat_of_zero_le (show 0 ≤ ta by omega)
                have hpk : (p : Int) < (k : Int) := by omega
                have hpI : (0 : Int) ≤ (p : Int) ∧ (k : Int) ≤ 20 ∧ (f : Int) < 4 := by omega
                clear hta htk hz0 hz1
                go_wp2_with (first
                  | ((with_reducible apply lit_load); exact hld65.out; simp only [Act.put, List.setIfInBounds_toArray, List.set_cons_zero, List.set_cons_succ])
                  | ((with_reducible apply lit_alloc); exact hal.out; simp only [Act.put, List.setIfInBounds_toArray, List.set_cons_zero, List.set_cons_succ])
                  | ((with_reducible apply lit_store); exact hsoH.out; simp only [Act.put]))
                rw [habH.out] at c3 ⊢
                have hpgH := hidden (fun (W : World) (O : Own) => page8_any (.int .u8 (dn : Int)) tb tn p (by omega) (by omega) W O)
                obtain ⟨P, hP⟩ : ∃ P, pageM tb tn p = P := ⟨_, rfl⟩
                rw [hP] at hpgH
                have hPl : P.length = 512 := by rw [← hP]; exact length_pageM _ _ _
                obtain ⟨d', hwr, hOd, hse, hrk⟩ := hOn.out.write p (by omega) P hPl
                rw [Int.natCast_add] at hwr
                have hwrH := hidden hwr
                have hPlH := hidden hPl
                have hPH := hidden hP
                clear c0 hsoH hal hld65 habH hwr hP hPl
                refine wp_region_need (fun w' => w'.heap[ab]? = some (.cells (Act8.cells ⟨(dn : Int), tb, (tn : Int), (p : Int)⟩).toArray 65 (0, 0)) ∧ w'.cell? ⟨ab, 3, none⟩ = some (.int .i64 (p : Int))) (fun _ => true) (by kernel_rfl) ⟨hab, c3⟩ (fun hHeld => ?_)
                refine wpAnyN_take (i := 0) (v := ?_) rfl (by kernel_rfl) (by kernel_rfl) (by kernel_rfl) (by kernel_rfl) (fun _ _ _ h => h) (Or.inl ⟨by rfl, ?_⟩) (by assumption) ?_
                rotate_left
                · intro w hSw; ((try dsimp only at hSw); go_simp; (try with_reducible rfl))
                simp only [Act.put, List.setIfInBounds_toArray, List.set_cons_zero, List.set_cons_succ]
                refine wpAnyN_take (i := 1) (v := ?_) rfl (by kernel_rfl) (by kernel_rfl) (by kernel_rfl) (by kernel_rfl) (fun _ _ _ h => h) (Or.inl ⟨by rfl, ?_⟩) (by assumption) ?_
                rotate_left
                · intro w hSw; ((try dsimp only at hSw); go_simp; (try with_reducible rfl))
                simp only [Act.put, List.setIfInBounds_toArray, List.set_cons_zero, List.set_cons_succ]
                refine wpAnyN_take (i := 2) (v := ?_) rfl (by kernel_rfl) (by kernel_rfl) (by kernel_rfl) (by kernel_rfl) (fun _ _ _ h => h) (Or.inl ⟨by rfl, ?_⟩) (by assumption) ?_
                rotate_left
                · intro w hSw; ((try dsimp only at hSw); go_simp; (try with_reducible rfl))
                simp only [Act.put, List.setIfInBounds_toArray, List.set_cons_zero, List.set_cons_succ]
                refine wpAnyN_take (i := 3) (v := ?_) rfl (by kernel_rfl) (by kernel_rfl) (by kernel_rfl) (by kernel_rfl) (fun _ _ _ h => h) (Or.inl ⟨by rfl, ?_⟩) (by assumption) ?_
                rotate_left
                · intro w hSw; ((try dsimp only at hSw); go_simp; (try with_reducible rfl))
                simp only [Act.put, List.setIfInBounds_toArray, List.set_cons_zero, List.set_cons_succ]
                refine wpAnyN_take (i := 4) (v := ?_) rfl (by kernel_rfl) (by kernel_rfl) (by kernel_rfl) (by kernel_rfl) (fun _ _ _ h => h) (Or.inl ⟨by rfl, ?_⟩) (by assumption) ?_
                rotate_left
                · intro w hSw; ((try dsimp only at hSw); go_simp; (try with_reducible rfl))
                simp only [Act.put, List.setIfInBounds_toArray, List.set_cons_zero, List.set_cons_succ]
                refine wpAnyN_take (i := 5) (v := .agg (Act8.cells ⟨(dn : Int), tb, (tn : Int), (p : Int)⟩).toArray) rfl (by kernel_rfl) (by kernel_rfl) (by kernel_rfl) (by kernel_rfl) (fun _ _ _ h => h) (yieldsIf_load_mid rfl 65 (.tmp 18) rfl ab 0 rfl (Act8.cells ⟨(dn : Int), tb, (tn : Int), (p : Int)⟩) _ (fun w h => range_whole h.1) Try.underlying65 rfl (by kernel_rfl)) (by assumption) ?_
                simp only [Act.put, List.setIfInBounds_toArray, List.set_cons_zero, List.set_cons_succ]
                refine wpAnyN_one (i := 6) rfl (by kernel_rfl) ?_
                go_wp2_with fail
                refine (hpgH.out _ O1).mono ?_; rintro e w2 ⟨v2, o2, rfl, hs2, g, cg, rfl, hb⟩
                have hs2 : Step Nobody W1 O1 w2 o2 := (Step.refl Nobody W1 O1).drew.trans hs2
                have hab2 := (hs2.block ab (lt_of_block hab) (nn _)).trans hab
                have hao2 := (hs2.own ab (lt_of_block hab)).trans hao
                have hS2 := And.intro hab2 (cell_of_block (i := 3) hab2)
                have hld := hld.step hs2 (nn _) (nn _) (nn _)
                have hrl := hrl.step hs2 (nn _)
                have hst := hst.trans hs2.above0
                have hwrt := hidden (write_is hld.2 hD0 (by have := hrw.out; omega) _ _ _ hb hwrH.out)
                clear hs2 hb hHeld
                go_wp2_with fail
                refine ⟨fun _ => hS2, ?_⟩
                refine wpAnyN_one (i := 7) rfl (by kernel_rfl) ?_
                go_wp2_with fail
                refine hwrt.out.mono ?_; rintro e w3 ⟨v3, o3, rfl, hs3, rfl, hdk⟩
                have nDab : ¬ Only D (o2 ab).1 := by rw [hao2]; exact nD0
                have hab3 := (hs3.block ab (lt_of_block hab2) nDab).trans hab2
                have hao3 := (hs3.own ab (lt_of_block hab2)).trans hao2
                have hS3 := And.intro hab3 (cell_of_block (i := 3) hab3)
                have hrl := hrl.step hs3 (fun h => by change _ = _ at h; omega)
                have hst := hst.trans (hs3.above1 mD)
                clear hs3 hS2 hab2 nDab hld hwrt
                go_wp2_with fail
                refine ⟨fun _ => hS3, ?_⟩
                refine wpAnyN_done (by kernel_rfl) ?_ _
                clear hab c3 hao
                obtain ⟨g0, cap0, c0, hpl, hgl, hpE, hgE, hpg, hcells⟩ := hrl.place
                rw [hOn.out.len] at c0
                have hcw := hcells p (by rw [hOn.out.len]; omega)
                have hS22 := And.intro hab3 (And.intro hS3.2 c0)
                have hS22H := hidden hS22
                have hcwH := hidden hcw
                clear hcells hS3 hcw hS22
                go_wp2_with fail
                refine wp_region_need (fun w' => w'.heap[ab]? = some (.cells (Act8.cells ⟨(dn : Int), tb, (tn : Int), (p : Int)⟩).toArray 65 (0, 0)) ∧ w'.cell? ⟨ab, 3, none⟩ = some (.int .i64 (p : Int)) ∧ w'.cell? ⟨pr, 0, none⟩ = some (.slice (some ⟨g0, 0, none⟩) k cap0)) (fun i => decide (i < 10)) (by kernel_rfl) hS22H.out (fun hHeld => ?_)
                refine wpAnyN_take (i := 0) (v := ?_) rfl (by kernel_rfl) (by kernel_rfl) (by kernel_rfl) (by kernel_rfl) (fun _ _ _ h => h) (Or.inl ⟨by rfl, ?_⟩) (by assumption) ?_
                rotate_left
                · intro w hSw; ((try dsimp only at hSw); go_simp; (try with_reducible rfl))
                simp only [Act.put, List.setIfInBounds_toArray, List.set_cons_zero, List.set_cons_succ]
                refine wpAnyN_take (i := 1) (v := ?_) rfl (by kernel_rfl) (by kernel_rfl) (by kernel_rfl) (by kernel_rfl) (fun _ _ _ h => h) (Or.inl ⟨by rfl, ?_⟩) (by assumption) ?_
                rotate_left
                · intro w hSw; ((try dsimp only at hSw); go_simp; (try with_reducible rfl))
                simp only [Act.put, List.setIfInBounds_toArray, List.set_cons_zero, List.set_cons_succ]
                refine wpAnyN_take (i := 2) (v := ?_) rfl (by kernel_rfl) (by kernel_rfl) (by kernel_rfl) (by kernel_rfl) (fun _ _ _ h => h) (Or.inl ⟨by rfl, ?_⟩) (by assumption) ?_
                rotate_left
                · intro w hSw; ((try dsimp only at hSw); go_simp; (try with_reducible rfl))
                simp only [Act.put, List.setIfInBounds_toArray, List.set_cons_zero, List.set_cons_succ]
                refine wpAnyN_take (i := 3) (v := ?_) rfl (by kernel_rfl) (by kernel_rfl) (by kernel_rfl) (by kernel_rfl) (fun _ _ _ h => h) (Or.inl ⟨by rfl, ?_⟩) (by assumption) ?_
                rotate_left
                · intro w hSw; ((try dsimp only at hSw); go_simp; (try with_reducible rfl))
                simp only [Act.put, List.setIfInBounds_toArray, List.set_cons_zero, List.set_cons_succ]
                refine wpAnyN_take (i := 4) (v := ?_) rfl (by kernel_rfl) (by kernel_rfl) (by kernel_rfl) (by kernel_rfl) (fun _ _ _ h => h) (Or.inl ⟨by rfl, ?_⟩) (by assumption) ?_
                rotate_left
                · intro w hSw; ((try dsimp only at hSw); go_simp; (try with_reducible rfl))
                simp only [Act.put, List.setIfInBounds_toArray, List.set_cons_zero, List.set_cons_succ]
                refine wpAnyN_take (i := 5) (v := ?_) rfl (by kernel_rfl) (by kernel_rfl) (by kernel_rfl) (by kernel_rfl) (fun _ _ _ h => h) (Or.inl ⟨by rfl, ?_⟩) (by assumption) ?_
                rotate_left
                · intro w hSw; ((try dsimp only at hSw); go_simp; (try with_reducible rfl))
                simp only [Act.put, List.setIfInBounds_toArray, List.set_cons_zero, List.set_cons_succ]
                refine wpAnyN_take (i := 6) (v := .agg (Act8.cells ⟨(dn : Int), tb, (tn : Int), (p : Int)⟩).toArray) rfl (by kernel_rfl) (by kernel_rfl) (by kernel_rfl) (by kernel_rfl) (fun _ _ _ h => h) (yieldsIf_load_mid rfl 65 (.tmp 18) rfl ab 0 rfl (Act8.cells ⟨(dn : Int), tb, (tn : Int), (p : Int)⟩) _ (fun w h => range_whole h.1) Try.underlying65 rfl (by kernel_rfl)) (by assumption) ?_
                simp only [Act.put, List.setIfInBounds_toArray, List.set_cons_zero, List.set_cons_succ]
                refine wpAnyN_one (i := 7) rfl (by kernel_rfl) ?_
                go_wp2_with fail
                refine (hpgH.out _ o3).mono ?_; rintro e w4 ⟨v4, o4, rfl, hs4, g4, cg4, rfl, hb4⟩
                have hs4 : Step Nobody w3 o3 w4 o4 := (Step.refl Nobody w3 o3).drew.trans hs4
                have hab4 := (hs4.block ab (lt_of_block hab3) (nn _)).trans hab3
                have hdk := hdk.step hs4 (nn _)
                have hrl := hrl.step hs4 (nn _)
                have hst := hst.trans hs4.above0
                have c04 : w4.cell? ⟨pr, 0, none⟩ = some (.slice (some ⟨g0, 0, none⟩) k cap0) := by rw [World.cell?_of_block (w := w3) (a := ⟨pr, 0, none⟩) (hs4.block pr hpl (nn _))]; exact c0
                have hS4 := And.intro hab4 (And.intro (cell_of_block (i := 3) hab4) c04)
                have hcv := conv_string hb4
                have hcvH := hidden hcv
                obtain ⟨zv, hcg, hfg⟩ := hcwH.out
                have egb := hs4.block g0 hgl (nn _)
                have hcg : w4.cell? ⟨g0, p, none⟩ = some zv := by
                  have := World.cell?_of_block (w := w3) (a := ⟨g0, p, none⟩) egb
                  rw [this]; exact hcg
                have hfg : w4.frozen? ⟨g0, p, none⟩ = false := by
                  have := World.frozen?_of_block (w := w3) (a := ⟨g0, p, none⟩) egb
                  rw [this]; exact hfg
                have hwt := hidden (hrl.wrote (by rw [hOn.out.len]; exact c04) p P hPlH.out)
                clear hs4 hb4 hcv egb hHeld
                go_wp2_with fail
                refine ⟨fun _ => hS4, ?_⟩
                refine wpAnyN_one (i := 8) rfl (by kernel_rfl) ?_
                refine lit_convert hcvH.out ?_
                refine wpList_nil ?_
                simp only [Act.put, List.setIfInBounds_toArray, List.set_cons_zero, List.set_cons_succ]
                refine ⟨fun _ => hS4, ?_⟩
                refine wpAnyN_take (i := 9) (v := ?_) rfl (by kernel_rfl) (by kernel_rfl) (by kernel_rfl) (by kernel_rfl) (fun _ _ _ h => h) (Or.inl ⟨by rfl, ?_⟩) (by assumption) ?_
                rotate_left
                · intro w hSw; ((try dsimp only at hSw); go_simp; (try with_reducible rfl))
                simp only [Act.put, List.setIfInBounds_toArray, List.set_cons_zero, List.set_cons_succ]
                refine wpAnyN_one (i := 10) rfl (by kernel_rfl) ?_
                go_wp2_with fail
                refine ⟨fun h => by simp at h, ?_⟩
                refine wpAnyN_done (by kernel_rfl) ?_ _
                have hrl := hwt.out.1
                have hst := hst.trans (hwt.out.2.above1 (by omega))
                have hdk := hdk.step hwt.out.2 (fun h => by change _ = _ at h; omega)
                have hRl : Hid ((R.set p P).length = k) := hidden (by rw [List.length_set]; exact hOn.out.len)
                have hrk : Hid (d'.row.length ≤ j + 1) := hidden (by have := hrw.out; omega)
                have hbk : Hid (LogM.newest (R.set p P) ≠ BitVec.allOnes 64 → (LogM.newest (R.set p P)).toNat ≤ LogM.top + 2 * (j + 1)) := hidden (fun hne => by
                  rw [← hPH.out] at hne ⊢
                  have := LogM.newest_wrote (m := LogM.top + 2 * j) (by omega) (by rw [hOn.out.len]; omega) (by omega) hbn.out hne
                  omega)
                have hOd := hidden hOd
                have hse := hidden hse
                clear hab4 hab3 hS4 hcg hfg c04 c0 hwt hpl hgl hpE hgE hpg hcvH hpgH hao2 hao3 hS22H hcwH
                have hxH := hidden (open_yes hL0 hD0 hLD hdk (by have := hrk.out; omega) hOd.out.dd f k hk2 (by omega) (by rw [hOd.out.len]; omega))
                rw [hse.out] at hxH
                go_wp2_with fail
                refine hxH.out.mono ?_; rintro e w6 ⟨v6, o6, rfl, hs, hop⟩
                have hrl := hrl.step hs (fun h => by change _ = _ at h; omega)
                have hdk := hdk.step hs nLD
                have hst := hst.trans (hs.above1 mL)
                obtain ⟨E', hEb, hEf'⟩ := fresh_tag o6 w6.heap.size (M + D + L)
                obtain ⟨g6, cap6, c6, hro⟩ := hrl.reopen (E' := E') (by omega) hEf'
                rw [hRl.out] at c6 hro
                have hroH := hidden hro
                clear hs hro hEf' hrl hxH
                by_cases hff : LogM.newest (R.set p P) = BitVec.allOnes 64
                · obtain rfl := hop.1 hff
                  have hffH := hidden hff
                  clear hop hff
                  go_wp2_with fail
                  refine hroH.out.mono ?_; rintro e w7 ⟨v7, o7, rfl, hs7, hop7⟩
                  obtain rfl := hop7.1 hffH.out
                  have hst := hst.trans hs7.above0
                  have hwk := wakes8_any w7 o7
                  clear hs7 hop7 hroH
                  go_wp2_with fail
                  refine hwk.mono ?_; rintro e w9 ⟨v9, o9, rfl, hs, rfl⟩
                  have hst := (hst.trans hs.above0).noneAbove hM
                  clear hwk hs
                  go_wp2_with fail
                  go_ret
                  exact ⟨_, o9, rfl, hst, rfl⟩
                · obtain ⟨px', -, rfl, hla⟩ := hop.2 hff
                  have hffH := hidden hff
                  clear hop hff
                  go_wp2_with fail
                  refine hroH.out.mono ?_; rintro e w7 ⟨v7, o7, rfl, hs7, hop7⟩
                  obtain ⟨pr', -, rfl, hrl⟩ := hop7.2 hffH.out
                  have hla := hla.step hs7 (nn _) (nn _)
                  have hdk := hdk.step hs7 (nn _)
                  have hld : LD w7 o7 L D px' pd (LogM.ofPages f (R.set p P), d') := ⟨hla, hdk⟩
                  have hst := hst.trans hs7.above0
                  have hOn' := hidden (hOn.out.open hOd.out hse.out)
                  have hbn' := hidden (hbk.out hffH.out)
                  have hrw' : Hid ((d' : DiskM).row.length ≤ j + 1) := hrk
                  clear hs7 hop7 hroH hla hdk
                  have hsame := same_any hld hrl f (by omega) hOn'.out.recs.1 hOn'.out.recs.2 (Nat.le_trans hrw'.out (by omega)) (fun i hi => hOn'.out.read i hi)
                  have hsameH := hidden hsame
                  clear hsame
                  go_wp2_with fail
                  refine hsameH.out.mono ?_; rintro e w8 ⟨v8, o8, rfl, hs, rfl⟩
                  have hld := hld.step hs (nn _) (nn _) (nn _)
                  have hrl := hrl.step hs (nn _)
                  have hst := hst.trans hs.above0
                  clear hs hsameH
                  go_wp2_with fail
                  go_roundw
                  case rel => exact ⟨j + 1, o8, E', px', pr', (LogM.ofPages f (R.set p P), d'), (R.set p P), by omega, by go_num, rfl, rfl, hld, hrl, hst, hEb, hOn', hbn', hrw'⟩
                  case measure => simp [intOf]; omega
        · have hwk := wakes8_any wr oj
          obtain rfl : ll = j := by omega
          go_wp2_with fail
          refine hwk.mono ?_; rintro e w9 ⟨v9, o9, rfl, hs, rfl⟩
          have hst := (hst.trans hs.above0).noneAbove hM
          clear hwk hs
          go_wp2_with fail
          go_ret
          exact ⟨_, o9, rfl, hst, rfl⟩
theorem logPages_walk {w : World} {o : Own} (a b : Int) (ha0 : 0 ≤ a) (ha1 : a ≤ 255) (hb0 : 0 ≤ b) (hb1 : b ≤ 255) {v : Value} {l : List Act8} (hl : Acts8 w o v l) :
    Calls Try.prog 8 #[.int .u8 a, .int .u8 b, v] w (Ret Nobody w o fun v _ _ => v = .bool true) := by
  obtain ⟨F, rfl⟩ := Int.eq_ofNat_of_zero_le ha0
  obtain ⟨n, rfl⟩ := Int.eq_ofNat_of_zero_le hb0
  by_cases hm : 40 < l.length
  · exact logPages_many _ _ hl hm
  · exact logPages_main F n (by omega) (by omega) hl hm
end Go.Proofs.YtfgggkheadfiaaaR
/- What every row over this seat's program asks of it. -/
namespace Go.Proofs.YtfgggkheadfiaaaR
open Go Go.RowKit
theorem ownKnobs : ownKnob Try.prog.godebug = none := by kernel_rfl
theorem laidOutTry : laidOutB Try.prog = true := by kernel_rfl
end Go.Proofs.YtfgggkheadfiaaaR
/- The statement LogPages, for every input; no conditions. -/
namespace Go.Proofs.YtfgggkheadfiaaaR
open Go Go.RowKit Go.ChangeShapes Go.WideShapes Go.ChangeAt

/-! ### LogPages -/
set_option maxRecDepth 100000 in
theorem logPages_lifted (os : Os) (started : os.Started) (H : Type) (enc : TypeId × Value → H) :
    ReturnsInHanded {} Try.checked os 8 .any (Rows.logPagesSpec.pre6 enc Try.prog Try.f8 Rows.logPagesRow.domain false) (Rows.logPagesSpec.post enc Try.prog Try.f8 false true false false) := by
  refine returnsInHanded_of_change (C := Try.checked) ownKnobs started (by kernel_rfl) Try.func8
    (ChangeSpec.witness6 (enc := enc) (C := Try.checked) false ⟨#[], #[.int .u8 0, .int .u8 0, .slice none 0 0], []⟩ 8 (by kernel_rfl) (by kernel_rfl) (by kernel_rfl) (by kernel_rfl)) ?_
  intro W base args ds gs before hval0 hW hcnd _
  have hval : ∀ (j : Nat) t v, Try.f8.params[j]? = some t → args[j]? = some v → Value.okWide Try.prog W .any base t v := hval0
  have hW' := hW
  obtain ⟨p, q, hA0, hV, rfl, hfz, hnd⟩ := hW
  have hA : DataW.TrodAll enc Try.prog W 0 (fun _ => true) true Try.f8.params.toList args.toList ds p := hA0
  rw [Try.params8] at hA hval
  obtain ⟨v0, v1, v2, d0, d1, d2, p0, p1, p2, rfl, rfl, rfl, h0, h1, h2⟩ := trodAll_three hA
  obtain ⟨a0, rfl, rfl, rfl, w0⟩ := open_int Try.underlying5 (hval 0 5 v0 rfl rfl) h0
  obtain ⟨a1, rfl, rfl, rfl, w1⟩ := open_int Try.underlying5 (hval 1 5 v1 rfl rfl) h1
  obtain ⟨a2, n2, c2, rfl⟩ := okWide_slice Try.underlying56 (hval 2 56 v2 rfl rfl)
  obtain ⟨f2, h2⟩ := h2
  obtain ⟨l, hl⟩ := read_acts8 h2
  obtain ⟨rfl, rfl⟩ := trodVars_none hV
  clear hA0 hval0
  refine (logPages_walk a0 a1 (bounds_u8 w0).1 (bounds_u8 w0).2 (bounds_u8 w1).1 (bounds_u8 w1).2 hl).mono fun e W' he => ?_
  obtain ⟨v, o', rfl, hs, rfl⟩ := he
  exact ⟨_, rfl, law_post laidOutTry (by kernel_rfl) rfl Try.underlying4 hW' rfl rfl rfl rfl rfl hs.below⟩

/-- THE STATEMENT. -/
theorem logPages_holds : Rows.LogPagesSaid :=
  OpenClaim.holds_of_wide 8 Try.f8 rfl rfl rfl rfl rfl rfl rfl ⟨rfl, rfl, rfl, rfl, rfl⟩ rfl rfl rfl rfl rfl (by kernel_rfl) Try.func8 (by kernel_rfl)
    (of_decide_eq_true (by kernel_rfl)) (by unfold Func.isWrapper; first | (rw [if_pos (by decide +kernel)]; kernel_rfl) | (rw [if_neg (by decide +kernel)]; exact ⟨rfl, rfl⟩))
    (fun os started H enc _ => logPages_lifted os started H enc)
#print axioms logPages_holds
end Go.Proofs.YtfgggkheadfiaaaR
