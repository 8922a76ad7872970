/- Contracts of small functions on bytes: slices.Clone, bytes.Equal, wire.number, wire.Uint. -/
import Derived.Test.YtfgggkheadfiaaaRU64
import Derived.Test.YtfgggkheadfiaaaRLaw07f
namespace Go.Proofs.YtfgggkheadfiaaaR
open Go Go.RowKit
attribute [local go_sem ↓] Go.wp_at_zero Go.wp_at_succ

theorem str_eqb (l1 l2 : List UInt8) : ((⟨l1.toArray⟩ : ByteArray).toList == (⟨l2.toArray⟩ : ByteArray).toList) = decide (l1 = l2) := by
  rw [ByteArray.toList_eq, ByteArray.toList_eq]
  by_cases h : l1 = l2 <;> simp [h]
theorem bequal_any {w : World} {o : Own} {v1 v2 : Value} {l1 l2 : List UInt8} (h1 : Bytes w o v1 l1) (h2 : Bytes w o v2 l2) : Calls Try.prog 114 #[v1, v2] w fun e w' => e = .returned (.bool (l1 == l2)) ∧ w = w' := by
  have c1 := conv_string h1
  have c2 := conv_string h2
  obtain ⟨a1, k1, rfl⟩ := slc_form h1
  obtain ⟨a2, k2, rfl⟩ := slc_form h2
  clear h1 h2
  go_enter Try.func114, Try.ntmps114
  go_wp2
  go_ret
  exact ⟨rfl, rfl⟩

theorem run_eqlnil {P : Program} (w : World) (t e : TypeId) (a : Option Addr) (n c : Nat) (h : P.underlying t = some (.slice e)) :
    (binOp .eql t (.slice a n c) (.slice none 0 0)).run P w = .ok (.bool a.isNone) w := by
  have h1 : ∀ d, (Op.equalIn (d + 1) t (.slice a n c) (.slice none 0 0)).run P w = .ok a.isNone w := fun d => by
    cases a <;> simp [Op.equalIn, run_underlying h]
  simp only [binOp]
  simp [Op.equal, Op.maxDepth, h1 9999]
/-- Bytes appended to an owned row. -/
theorem run_append_bytes (W : World) {base : Nat} (hbase : base ≤ W.heap.size) (v : Value) (n : Nat) (xs : List UInt8) (hown : W.ownsRow base 5 1 v n (bvs xs)) (b off m c : Nat) (news : List UInt8) (hl : news.length = m) (hr : W.rangeAt b off (bvs news)) (hm : 0 < m) (h63 : n + m ≤ 1000000000) :
    ∃ g cap w', (Builtin.append_ #[28, 28] 28 #[v, .slice (some ⟨b, off, none⟩) m c]).run Try.prog W = .ok (.slice (some ⟨g, 0, none⟩) (n + m) cap) w' ∧
      w'.ownsRow base 5 1 (.slice (some ⟨g, 0, none⟩) (n + m) cap) (n + m) (bvs (xs ++ news)) ∧ W.grownBy w' v.ownBlock ∧ (v.ownBlock = some g ∨ g = W.heap.size) ∧ g < w'.heap.size := by
  obtain ⟨g, cap, w', h1, h2, h3⟩ := run_append_row (P := Try.prog) W 28 28 5 Try.underlying28 inf5 rfl (by omega) hbase v n (bvs xs) hown b off m c (bvs news) (by rw [length_bvs]; omega) hr (one_bvs news) hm (by omega) (by omega)
  exact ⟨g, cap, w', h1, by rw [bvs_append]; exact h2, h3⟩

set_option maxRecDepth 100000 in
set_option maxHeartbeats 800000 in
theorem clone_any {w : World} {o : Own} {v : Value} {l : List UInt8} (h : Bytes w o v l) (hll : l.length ≤ 1000000) : Calls Try.prog 89 #[v] w (Ret Nobody w o fun v w' o' => NewB w w' o' v l) := by
  have hz : (w.alloc (.cells #[] 5)).ownsRow w.heap.size 5 1 (.slice (some ⟨w.heap.size, 0, none⟩) 0 0) 0 (bvs []) := ⟨rfl, .inr ⟨_, 0, #[], rfl, Nat.le_refl _, heap_alloc_new w _, by omega, by simp, rfl, rfl⟩⟩
  have hbz : Below w.heap.size w (w.alloc (.cells #[] 5)) := (Below.refl _ _).alloc (Nat.le_refl _) _
  have fin : ∀ (w' : World) (v' : Value), Below w.heap.size w w' → w'.ownsRow w.heap.size 5 1 v' l.length (bvs l) → Ret Nobody w o (fun v w' o' => NewB w w' o' v l) (.returned v') w' := fun w' v' hb ho =>
    ⟨_, (fun k => if k < w.heap.size then o k else (0, 0)), rfl, ⟨hb.os, hb.tape, hb.output, hb.size, fun k hk => if_pos hk, fun k hk _ => hb.block k hk⟩, ho, fun k hk => if_neg (by have := (ho.lt k hk).1; omega)⟩
  rcases h.cases with ⟨⟨a, c, rfl⟩, rfl⟩ | ⟨b, off, cap, rfl, hl, hm, ho, hb, hr⟩
  · cases a with
    | none =>
      have he := run_eqlnil w 28 5 none 0 c Try.underlying28
      go_enter Try.func89, Try.ntmps89
      go_wp2
      go_ret
      exact fin _ _ (Below.refl _ _) (World.ownsRow_nil _ _ _ _)
    | some ad =>
      have he := run_eqlnil w 28 5 (some ad) 0 c Try.underlying28
      go_enter Try.func89, Try.ntmps89
      go_wp2_with fail
      go_ret
      exact fin _ _ hbz hz
  · by_cases h0 : l.length = 0
    · have hl0 : l = [] := List.eq_nil_of_length_eq_zero h0
      subst hl0
      have he := run_eqlnil w 28 5 (some ⟨b, off, none⟩) 0 cap Try.underlying28
      simp only [List.length_nil]
      go_enter Try.func89, Try.ntmps89
      go_wp2_with fail
      go_ret
      exact fin _ _ hbz hz
    · have he := run_eqlnil w 28 5 (some ⟨b, off, none⟩) l.length cap Try.underlying28
      have hr1 : (w.alloc (.cells #[] 5)).rangeAt b off (bvs l) := World.rangeAt_alloc hr _
      obtain ⟨g, cp, w3, hrun, hown, hgrow, hat, hlt⟩ := run_append_bytes (w.alloc (.cells #[] 5)) (base := w.heap.size) (by simp) _ 0 [] hz b off l.length cap l rfl hr1 (by omega) (by omega)
      have hb3 := hbz.grown hgrow (by simp) (fun k hk => by simp only [Value.ownBlock, Option.some.injEq] at hk; omega)
      rw [Nat.zero_add, List.nil_append] at hown
      rw [Nat.zero_add] at hrun
      have hrunH := hidden hrun
      clear hrun hr1 hr
      go_enter Try.func89, Try.ntmps89
      go_wp2_with ((with_reducible apply lit_append); exact hrunH.out; simp only [Act.put, List.setIfInBounds_toArray, List.set_cons_zero, List.set_cons_succ])
      go_ret
      exact fin _ _ hb3 hown

theorem own_form {w : World} {base e size n : Nat} {v : Value} {xs : List Value} (h : w.ownsRow base e size v n xs) : ∃ a c, v = .slice a n c := by
  rcases h.2 with ⟨rfl, rfl⟩ | ⟨g, cap, cur, rfl, _⟩
  · exact ⟨_, _, rfl⟩
  · exact ⟨_, _, rfl⟩
/-- Byte k of a number; n bytes, the highest first. -/
def beB (x : BitVec 64) (k : Nat) : UInt8 := UInt8.ofNat (x >>> (8 * k)).toNat
def be (n : Nat) (x : BitVec 64) : List UInt8 := (List.range n).map fun i => beB x (n - 1 - i)
theorem length_be (n : Nat) (x : BitVec 64) : (be n x).length = n := by simp [be]
theorem be_take (n : Nat) (x : BitVec 64) (j : Nat) (hj : j < n) : (be n x).take (j + 1) = (be n x).take j ++ [beB x (n - 1 - j)] := by
  rw [List.take_succ_eq_append_getElem (by rw [length_be]; exact hj)]
  simp [be]
theorem beB_int (x : BitVec 64) (k : Nat) : ((x >>> (8 * k)).toNat : Int) % 256 = ((beB x k).toNat : Int) := by
  unfold beB; rw [UInt8.toNat_ofNat']; omega

theorem beB_int2 (x : BitVec 64) (k : Nat) : (x.toNat : Int) / 2 ^ (8 * k) % 256 = ((beB x k).toNat : Int) := by
  rw [← beB_int, BitVec.toNat_ushiftRight, Nat.shiftRight_eq_div_pow]; simp
set_option maxRecDepth 100000 in
set_option maxHeartbeats 1600000 in
theorem wnumber_any {w : World} {o : Own} {v : Value} {l : List UInt8} (h : Bytes w o v l) (hll : l.length ≤ 1000000) (x : BitVec 64) (n : Nat) (hn : n ≤ 8) :
    Calls Try.prog 135 #[v, .int .u64 (x.toNat : Int), .int .i64 (n : Int)] w (Ret Nobody w o fun v w' o' => NewB w w' o' v (l ++ be n x)) := by
  have hcl := clone_any h hll
  go_enter Try.func135, Try.ntmps135
  go_wp2_with fail
  refine hcl.mono ?_; rintro e wc ⟨v1, oc, rfl, hs, hown1, ho1⟩
  have hbel : Below w.heap.size w wc := hs.below
  go_wp2_with fail
  go_loopw [7, 8] (fun out i wr => ∃ j : Nat, j ≤ n ∧ i = .int .i64 ((n : Int) - 1 - j) ∧ wr.ownsRow w.heap.size 5 1 out (l.length + j) (bvs (l ++ (be n x).take j)) ∧ Below w.heap.size w wr)
    (fun _ i _ => (intOf i + 1).toNat)
  case atStart => exact ⟨0, Nat.zero_le _, by simp, by simpa using hown1, hbel⟩
  case round =>
    clear hown1 hbel hs hcl
    obtain ⟨j, hj, rfl, hown, hbel⟩ := hrel
    by_cases hlt : j < n
    · obtain ⟨k, hk⟩ : ∃ k : Nat, (n : Int) - 1 - j = (k : Int) ∧ k = n - 1 - j := ⟨n - 1 - j, by omega, rfl⟩
      obtain ⟨hk, hkn⟩ := hk
      rw [hk]
      have hk8 : k < 8 := by omega
      have hb8 := beB_int2 x k
      obtain ⟨oa, oc2, rfl⟩ := own_form hown
      have hownA := hown.alloc (.cells #[.int .u8 ((beB x k).toNat : Int)] 5)
      have hnb : (wr.alloc (.cells #[.int .u8 ((beB x k).toNat : Int)] 5)).heap[wr.heap.size]? = some (.cells [Value.int .u8 ((beB x k).toNat : Int)].toArray 5 (0, 0)) := heap_alloc_new wr _
      have hbs := hbel.size
      obtain ⟨g, cap, w3, hrun, hown3, hgrow, hat, hlt3⟩ := run_append_bytes (wr.alloc (.cells #[.int .u8 ((beB x k).toNat : Int)] 5)) (base := w.heap.size) (by simp; omega) _ (l.length + j) _ hownA wr.heap.size 0 1 1 [beB x k] rfl (range_whole hnb) (by omega) (by omega)
      have hb3 : Below w.heap.size w w3 := (hbel.alloc hbel.size _).grown hgrow (by simp; omega) (fun k hk => (hown.lt k hk).1)
      have hown3' : w3.ownsRow w.heap.size 5 1 (.slice (some ⟨g, 0, none⟩) (l.length + j + 1) cap) (l.length + (j + 1)) (bvs (l ++ (be n x).take (j + 1))) := by
        rw [be_take n x j hlt, ← hkn, ← List.append_assoc]; exact hown3
      have hrunH := hidden hrun
      clear hrun hown3 hownA hnb hown hat hlt3 hkn
      go_wp2_with ((with_reducible apply lit_append); exact hrunH.out; simp only [Act.put, List.setIfInBounds_toArray, List.set_cons_zero, List.set_cons_succ])
      go_roundw
      case rel => exact ⟨j + 1, hlt, by go_num, hown3', hb3⟩
      case measure => (simp [intOf] <;> omega)
    · have hj' : j = n := by omega
      subst hj'
      rw [List.take_of_length_le (by rw [length_be]; omega)] at hown
      have hm1 : (j : Int) - 1 - j = -1 := by omega
      rw [hm1]
      obtain ⟨oa, oc2, rfl⟩ := own_form hown
      go_wp2_with fail
      go_ret
      refine ⟨_, (fun k => if k < w.heap.size then o k else (0, 0)), rfl, ⟨hbel.os, hbel.tape, hbel.output, hbel.size, fun k hk => if_pos hk, fun k hk _ => hbel.block k hk⟩, ?_, fun k hk => if_neg (by have := (hown.lt k hk).1; omega)⟩
      rw [List.length_append, length_be]; exact hown
end Go.Proofs.YtfgggkheadfiaaaR
