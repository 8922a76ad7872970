/- What a law's argument reads as is laid out: slices of numbers, of structs. Over any program. -/
import Derived.Deep.Slices
import Derived.Lib.AppendZerosOnto
import Derived.Test.YtfgggkheadfiaaaRSk1
namespace Go.Proofs.YtfgggkheadfiaaaR
open Go Go.RowKit Go.Deep

theorem list_choose {α : Type} (R : Nat → α → Prop) : ∀ n : Nat, (∀ i, i < n → ∃ x, R i x) → ∃ l : List α, l.length = n ∧ ∀ i (h : i < l.length), R i l[i]
  | 0, _ => ⟨[], rfl, fun i h => by simp at h⟩
  | n + 1, hx => by
    obtain ⟨l, hl, hr⟩ := list_choose R n (fun i hi => hx i (by omega))
    obtain ⟨x, hxx⟩ := hx n (by omega)
    refine ⟨l ++ [x], by simp [hl], fun i h => ?_⟩
    by_cases hi : i < l.length
    · rw [List.getElem_append_left hi]; exact hr i hi
    · have : i = n := by simp at h; omega
      subst this
      rw [List.getElem_append_right (by omega)]
      simpa [hl] using hxx

section
variable {H : Type} {enc : TypeId × Value → H} {P : Program} {W : World}

theorem read_slice {t e : TypeId} {fuel : Nat} {v : Value} {x : DataW H × List MemPlace} (ht : P.underlying t = some (.slice e)) (hpos : 0 < P.cellsOf e)
    (h : DataW.trod enc P W 0 (fun _ => true) true fuel t [v] = some x) :
    (∃ a c, v = .slice a 0 c) ∨ ∃ b off len cap, v = .slice (some ⟨b, off, none⟩) len cap ∧ 0 < len ∧ len ≤ cap ∧ cap ≤ maxLen ∧ b < W.heap.size ∧
      ∀ i, i < cap → ∃ cs', cs'.length = P.cellsOf e ∧ W.rangeAt b (off + i * P.cellsOf e) cs' ∧ ∃ n y, DataW.trod enc P W 0 (fun _ => true) true n e cs' = some y := by
  rcases open_slice ht h with ⟨h0, _⟩ | ⟨a, len, cap, m, n, D, Pl, h0, _, hlc, hcm, hm, _, hel⟩
  · simp only [List.cons.injEq, and_true] at h0
    exact .inl ⟨_, _, h0⟩
  · simp only [List.cons.injEq, and_true] at h0
    simp only [if_true] at hm
    subst hm
    by_cases hz : len = 0
    · subst hz; exact .inl ⟨_, _, h0⟩
    · have hc0 : 0 < m := by omega
      have hcell : ∀ i, i < m → ∃ cs', cs'.length = P.cellsOf e ∧ (∀ j, j < P.cellsOf e → W.cell? ((a.add (i * P.cellsOf e)).add j) = cs'[j]?) ∧ ∃ n y, DataW.trod enc P W 0 (fun _ => true) true n e cs' = some y := by
        intro i hi
        obtain ⟨cs', h1, h2⟩ := hel i hi
        obtain ⟨_, h3, h4⟩ := World.cells?_some h1
        exact ⟨cs', h3, h4, _, _, h2⟩
      obtain ⟨cs0, h3, h4, _⟩ := hcell 0 hc0
      have h5 := h4 0 hpos
      have ha0 : ((a.add (0 * P.cellsOf e)).add 0) = a := by simp [Addr.add]
      rw [ha0, List.getElem?_eq_getElem (by omega)] at h5
      have hsp : a.spot = none := by
        cases hs : a.spot with
        | none => rfl
        | some s =>
          exfalso
          unfold World.cell? at h5
          cases hh : W.heap[a.block]? with
          | none => simp [hh] at h5
          | some ob => cases ob <;> simp [hh, hs] at h5
      have hblk := World.block_lt_of_cell? W _ h5
      obtain ⟨b, off, sp⟩ := a
      simp only at hsp hblk
      subst hsp
      refine .inr ⟨b, off, len, m, h0, by omega, hlc, hcm, hblk, fun i hi => ?_⟩
      obtain ⟨cs', k1, k2, k3⟩ := hcell i hi
      refine ⟨cs', k1, fun j w hj => ?_, k3⟩
      have hj' : j < P.cellsOf e := by
        rw [← k1]; exact (List.getElem?_eq_some_iff.1 hj).1
      have := k2 j hj'
      rw [Addr.add_mid, Addr.add_mid, hj] at this
      exact this

theorem read_nums {t e : TypeId} {k : IntKind} {fuel : Nat} {v : Value} {x : DataW H × List MemPlace} (ht : P.underlying t = some (.slice e)) (he : P.underlying e = some (.int k)) (hc : P.cellsOf e = 1)
    (h : DataW.trod enc P W 0 (fun _ => true) true fuel t [v] = some x) :
    ∃ l : List Int, Slc W (fun _ => (0, 0)) v l.length (l.map (Value.int k)) ∧ ∀ a ∈ l, (Lit.int k a).wf = true := by
  rcases read_slice ht (by omega) h with ⟨a, c, rfl⟩ | ⟨b, off, len, cap, rfl, h0, hlc, hcm, hb, hel⟩
  · exact ⟨[], .inl ⟨⟨a, c, rfl⟩, rfl, rfl⟩, by simp⟩
  · obtain ⟨l, hl, hr⟩ := list_choose (fun i (n : Int) => W.cell? ⟨b, off + i, none⟩ = some (.int k n) ∧ (Lit.int k n).wf = true) len (fun i hi => by
      obtain ⟨cs', k1, k2, n, y, k3⟩ := hel i (by omega)
      obtain ⟨a, rfl, _, hw⟩ := DataW.trod_int he k3
      refine ⟨a, ?_, hw⟩
      have := k2 0 _ rfl
      rwa [hc, Nat.mul_one, Nat.add_zero] at this)
    refine ⟨l, .inr ⟨b, off, cap, by rw [hl], by omega, hcm, rfl, hb, fun j w hj => ?_⟩, fun a ha => ?_⟩
    · rw [List.getElem?_map] at hj
      cases hjl : l[j]? with
      | none => rw [hjl] at hj; cases hj
      | some a =>
        obtain ⟨hlt, hja⟩ := List.getElem?_eq_some_iff.1 hjl
        rw [hjl] at hj
        simp only [Option.map_some, Option.some.injEq] at hj
        rw [← hj, ← hja]
        exact (hr j hlt).1
    · obtain ⟨i, hi, rfl⟩ := List.mem_iff_getElem.1 ha
      exact (hr i hi).2
end
end Go.Proofs.YtfgggkheadfiaaaR
/- The acts of layer 7's laws: how they are read, what they do to a disk, 'Many'. -/
namespace Go.Proofs.YtfgggkheadfiaaaR
open Go Go.RowKit
attribute [local go_sem ↓] Go.wp_at_zero Go.wp_at_succ

structure Act7 where
  do_ : Int
  at' : Int
  b : Int
  st : Int
  fv : Value
  fates : List Int
namespace Act7
def cells (a : Act7) : List Value := [.int .u8 a.do_, .int .i64 a.at', .int .u8 a.b, .int .u8 a.st, a.fv]
def ok (a : Act7) : Prop := (0 ≤ a.do_ ∧ a.do_ ≤ 255) ∧ (-9223372036854775808 ≤ a.at' ∧ a.at' ≤ 9223372036854775807) ∧ (0 ≤ a.b ∧ a.b ≤ 255) ∧ (0 ≤ a.st ∧ a.st ≤ 255) ∧ ∀ x ∈ a.fates, -9223372036854775808 ≤ x ∧ x ≤ 9223372036854775807
def sheet (a : Act7) : List UInt8 := sheetL (UInt8.ofNat a.b.toNat) (UInt8.ofNat a.st.toNat) 512
end Act7

/-- v reads as the acts l. -/
def Acts7 (w : World) (o : Own) (v : Value) (l : List Act7) : Prop :=
  ((∃ a c, v = .slice a 0 c) ∧ l = []) ∨ ∃ b off cap, v = .slice (some ⟨b, off, none⟩) l.length cap ∧ l.length ≤ cap ∧ cap ≤ maxLen ∧ (o b).1 = 0 ∧ b < w.heap.size ∧
    ∀ i (h : i < l.length), w.rangeAt b (off + i * 5) l[i].cells ∧ Ints w o l[i].fv l[i].fates ∧ l[i].ok

section
variable {H : Type} {enc : TypeId × Value → H} {W : World}
theorem read_ints {fuel : Nat} {v : Value} {x : DataW H × List MemPlace} (h : DataW.trod enc Try.prog W 0 (fun _ => true) true fuel 34 [v] = some x) :
    ∃ l : List Int, Ints W (fun _ => (0, 0)) v l ∧ ∀ a ∈ l, -9223372036854775808 ≤ a ∧ a ≤ 9223372036854775807 := by
  obtain ⟨l, h1, h2⟩ := read_nums Try.underlying34 Try.underlying3 (by kernel_rfl) h
  exact ⟨l, h1, fun a ha => Go.bounds_i64 (h2 a ha)⟩

end

/-- Above 0 where acts are more than a law looks at. -/
def many7 (l : List Act7) : Int := if (l.take 81).any (fun a => decide (60 < a.fates.length)) then 1 else max 0 ((l.length : Int) - 80)

end Go.Proofs.YtfgggkheadfiaaaR
/- Contract of the laws' own 'does': an act on a disk. -/
namespace Go.Proofs.YtfgggkheadfiaaaR
open Go Go.RowKit
attribute [local go_sem ↓] Go.wp_at_zero Go.wp_at_succ

def DiskM.does7 (d : DiskM) (a : Act7) : DiskM × Int :=
  if a.do_ % 6 = 0 then d.write a.at' a.sheet
  else if a.do_ % 6 = 1 then d.sync
  else if a.do_ % 6 = 2 then (d.fuse a.at', 0)
  else if a.do_ % 6 = 3 then (d.kill, 0)
  else if a.do_ % 6 = 4 then (d.restart a.fates, 0)
  else d.write a.at' (List.replicate a.b.toNat 0)

theorem zeros_bvs (n : Nat) : (List.replicate n [Value.int .u8 0]).flatten = bvs (List.replicate n 0) := by
  induction n with
  | zero => rfl
  | succ n ih => rw [List.replicate_succ, List.replicate_succ, List.flatten_cons, ih]; rfl

/-- New zeros. -/
theorem bytes_zeros (w : World) (o : Own) (n : Nat) (hn : n ≤ 9223372036854775807) : Bytes (w.alloc (.cells (bvs (List.replicate n 0)).toArray 5)) (tagAt o w.heap.size (0, 0)) (.slice (some ⟨w.heap.size, 0, none⟩) n n) (List.replicate n 0) :=
  .inr ⟨w.heap.size, 0, n, by rw [List.length_replicate], by simp, by simp only [maxLen]; exact hn, by rw [tagAt_same], by simp, range_whole (heap_alloc_new w _)⟩

end Go.Proofs.YtfgggkheadfiaaaR
/- Numbers of 64 bits as BitVec 64: the machine's operations on them. Over any program. -/
namespace Go.Proofs.YtfgggkheadfiaaaR
open Go Go.RowKit

def u64 (x : BitVec 64) : Value := .int .u64 (x.toNat : Int)
theorem ofInt64 (x : BitVec 64) : BitVec.ofInt 64 (x.toNat : Int) = x := by simp
theorem wrap64 (x : BitVec 64) : IntKind.u64.wrap (x.toNat : Int) = (x.toNat : Int) := by
  have := x.isLt
  simp [IntKind.wrap, IntKind.bits, IntKind.signed]; omega
section
variable {P : Program} (w : World) (x y : BitVec 64) (t : TypeId)
end
end Go.Proofs.YtfgggkheadfiaaaR
/- Contracts of small functions on bytes: slices.Clone, bytes.Equal, wire.number, wire.Uint. -/
namespace Go.Proofs.YtfgggkheadfiaaaR
open Go Go.RowKit
attribute [local go_sem ↓] Go.wp_at_zero Go.wp_at_succ

theorem str_eqb (l1 l2 : List UInt8) : ((⟨l1.toArray⟩ : ByteArray).toList == (⟨l2.toArray⟩ : ByteArray).toList) = decide (l1 = l2) := by
  rw [ByteArray.toList_eq, ByteArray.toList_eq]
  by_cases h : l1 = l2 <;> simp [h]
theorem bequal_any {w : World} {o : Own} {v1 v2 : Value} {l1 l2 : List UInt8} (h1 : Bytes w o v1 l1) (h2 : Bytes w o v2 l2) : Calls Try.prog 114 #[v1, v2] w fun e w' => e = .returned (.bool (l1 == l2)) ∧ w = w' := by
  have c1 := conv_string h1
  have c2 := conv_string h2
  obtain ⟨a1, k1, rfl⟩ := slc_form h1
  obtain ⟨a2, k2, rfl⟩ := slc_form h2
  clear h1 h2
  go_enter Try.func114, Try.ntmps114
  go_wp2
  go_ret
  exact ⟨rfl, rfl⟩

theorem run_eqlnil {P : Program} (w : World) (t e : TypeId) (a : Option Addr) (n c : Nat) (h : P.underlying t = some (.slice e)) :
    (binOp .eql t (.slice a n c) (.slice none 0 0)).run P w = .ok (.bool a.isNone) w := by
  have h1 : ∀ d, (Op.equalIn (d + 1) t (.slice a n c) (.slice none 0 0)).run P w = .ok a.isNone w := fun d => by
    cases a <;> simp [Op.equalIn, run_underlying h]
  simp only [binOp]
  simp [Op.equal, Op.maxDepth, h1 9999]
/-- Bytes appended to an owned row. -/
theorem run_append_bytes (W : World) {base : Nat} (hbase : base ≤ W.heap.size) (v : Value) (n : Nat) (xs : List UInt8) (hown : W.ownsRow base 5 1 v n (bvs xs)) (b off m c : Nat) (news : List UInt8) (hl : news.length = m) (hr : W.rangeAt b off (bvs news)) (hm : 0 < m) (h63 : n + m ≤ 1000000000) :
    ∃ g cap w', (Builtin.append_ #[28, 28] 28 #[v, .slice (some ⟨b, off, none⟩) m c]).run Try.prog W = .ok (.slice (some ⟨g, 0, none⟩) (n + m) cap) w' ∧
      w'.ownsRow base 5 1 (.slice (some ⟨g, 0, none⟩) (n + m) cap) (n + m) (bvs (xs ++ news)) ∧ W.grownBy w' v.ownBlock ∧ (v.ownBlock = some g ∨ g = W.heap.size) ∧ g < w'.heap.size := by
  obtain ⟨g, cap, w', h1, h2, h3⟩ := run_append_row (P := Try.prog) W 28 28 5 Try.underlying28 inf5 rfl (by omega) hbase v n (bvs xs) hown b off m c (bvs news) (by rw [length_bvs]; omega) hr (one_bvs news) hm (by omega) (by omega)
  exact ⟨g, cap, w', h1, by rw [bvs_append]; exact h2, h3⟩

set_option maxRecDepth 100000 in
set_option maxHeartbeats 800000 in
theorem clone_any {w : World} {o : Own} {v : Value} {l : List UInt8} (h : Bytes w o v l) (hll : l.length ≤ 4000000) : Calls Try.prog 89 #[v] w (Ret Nobody w o fun v w' o' => NewB w w' o' v l) := by
  have hz : (w.alloc (.cells #[] 5)).ownsRow w.heap.size 5 1 (.slice (some ⟨w.heap.size, 0, none⟩) 0 0) 0 (bvs []) := ⟨rfl, .inr ⟨_, 0, #[], rfl, Nat.le_refl _, heap_alloc_new w _, by omega, by simp, rfl, rfl⟩⟩
  have hbz : Below w.heap.size w (w.alloc (.cells #[] 5)) := (Below.refl _ _).alloc (Nat.le_refl _) _
  have fin : ∀ (w' : World) (v' : Value), Below w.heap.size w w' → w'.ownsRow w.heap.size 5 1 v' l.length (bvs l) → Ret Nobody w o (fun v w' o' => NewB w w' o' v l) (.returned v') w' := fun w' v' hb ho =>
    ⟨_, (fun k => if k < w.heap.size then o k else (0, 0)), rfl, ⟨hb.os, hb.tape, hb.output, hb.size, fun k hk => if_pos hk, fun k hk _ => hb.block k hk⟩, ho, fun k hk => if_neg (by have := (ho.lt k hk).1; omega)⟩
  rcases h.cases with ⟨⟨a, c, rfl⟩, rfl⟩ | ⟨b, off, cap, rfl, hl, hm, ho, hb, hr⟩
  · cases a with
    | none =>
      have he := run_eqlnil w 28 5 none 0 c Try.underlying28
      go_enter Try.func89, Try.ntmps89
      go_wp2
      go_ret
      exact fin _ _ (Below.refl _ _) (World.ownsRow_nil _ _ _ _)
    | some ad =>
      have he := run_eqlnil w 28 5 (some ad) 0 c Try.underlying28
      go_enter Try.func89, Try.ntmps89
      go_wp2_with fail
      go_ret
      exact fin _ _ hbz hz
  · by_cases h0 : l.length = 0
    · have hl0 : l = [] := List.eq_nil_of_length_eq_zero h0
      subst hl0
      have he := run_eqlnil w 28 5 (some ⟨b, off, none⟩) 0 cap Try.underlying28
      simp only [List.length_nil]
      go_enter Try.func89, Try.ntmps89
      go_wp2_with fail
      go_ret
      exact fin _ _ hbz hz
    · have he := run_eqlnil w 28 5 (some ⟨b, off, none⟩) l.length cap Try.underlying28
      have hr1 : (w.alloc (.cells #[] 5)).rangeAt b off (bvs l) := World.rangeAt_alloc hr _
      obtain ⟨g, cp, w3, hrun, hown, hgrow, hat, hlt⟩ := run_append_bytes (w.alloc (.cells #[] 5)) (base := w.heap.size) (by simp) _ 0 [] hz b off l.length cap l rfl hr1 (by omega) (by omega)
      have hb3 := hbz.grown hgrow (by simp) (fun k hk => by simp only [Value.ownBlock, Option.some.injEq] at hk; omega)
      rw [Nat.zero_add, List.nil_append] at hown
      rw [Nat.zero_add] at hrun
      have hrunH := hidden hrun
      clear hrun hr1 hr
      go_enter Try.func89, Try.ntmps89
      go_wp2_with ((with_reducible apply lit_append); exact hrunH.out; simp only [Act.put, List.setIfInBounds_toArray, List.set_cons_zero, List.set_cons_succ])
      go_ret
      exact fin _ _ hb3 hown

theorem own_form {w : World} {base e size n : Nat} {v : Value} {xs : List Value} (h : w.ownsRow base e size v n xs) : ∃ a c, v = .slice a n c := by
  rcases h.2 with ⟨rfl, rfl⟩ | ⟨g, cap, cur, rfl, _⟩
  · exact ⟨_, _, rfl⟩
  · exact ⟨_, _, rfl⟩
/-- Byte k of a number; n bytes, the highest first. -/
def beB (x : BitVec 64) (k : Nat) : UInt8 := UInt8.ofNat (x >>> (8 * k)).toNat
def be (n : Nat) (x : BitVec 64) : List UInt8 := (List.range n).map fun i => beB x (n - 1 - i)
theorem length_be (n : Nat) (x : BitVec 64) : (be n x).length = n := by simp [be]
theorem be_take (n : Nat) (x : BitVec 64) (j : Nat) (hj : j < n) : (be n x).take (j + 1) = (be n x).take j ++ [beB x (n - 1 - j)] := by
  rw [List.take_succ_eq_append_getElem (by rw [length_be]; exact hj)]
  simp [be]
theorem beB_int (x : BitVec 64) (k : Nat) : ((x >>> (8 * k)).toNat : Int) % 256 = ((beB x k).toNat : Int) := by
  unfold beB; rw [UInt8.toNat_ofNat']; omega

theorem beB_int2 (x : BitVec 64) (k : Nat) : (x.toNat : Int) / 2 ^ (8 * k) % 256 = ((beB x k).toNat : Int) := by
  rw [← beB_int, BitVec.toNat_ushiftRight, Nat.shiftRight_eq_div_pow]; simp
set_option maxRecDepth 100000 in
set_option maxHeartbeats 1600000 in
theorem wnumber_any {w : World} {o : Own} {v : Value} {l : List UInt8} (h : Bytes w o v l) (hll : l.length ≤ 4000000) (x : BitVec 64) (n : Nat) (hn : n ≤ 8) :
    Calls Try.prog 135 #[v, .int .u64 (x.toNat : Int), .int .i64 (n : Int)] w (Ret Nobody w o fun v w' o' => NewB w w' o' v (l ++ be n x)) := by
  have hcl := clone_any h hll
  go_enter Try.func135, Try.ntmps135
  go_wp2_with fail
  refine hcl.mono ?_; rintro e wc ⟨v1, oc, rfl, hs, hown1, ho1⟩
  have hbel : Below w.heap.size w wc := hs.below
  go_wp2_with fail
  go_loopw [7, 8] (fun out i wr => ∃ j : Nat, j ≤ n ∧ i = .int .i64 ((n : Int) - 1 - j) ∧ wr.ownsRow w.heap.size 5 1 out (l.length + j) (bvs (l ++ (be n x).take j)) ∧ Below w.heap.size w wr)
    (fun _ i _ => (intOf i + 1).toNat)
  case atStart => exact ⟨0, Nat.zero_le _, by simp, by simpa using hown1, hbel⟩
  case round =>
    clear hown1 hbel hs hcl
    obtain ⟨j, hj, rfl, hown, hbel⟩ := hrel
    by_cases hlt : j < n
    · obtain ⟨k, hk⟩ : ∃ k : Nat, (n : Int) - 1 - j = (k : Int) ∧ k = n - 1 - j := ⟨n - 1 - j, by omega, rfl⟩
      obtain ⟨hk, hkn⟩ := hk
      rw [hk]
      have hk8 : k < 8 := by omega
      have hb8 := beB_int2 x k
      obtain ⟨oa, oc2, rfl⟩ := own_form hown
      have hownA := hown.alloc (.cells #[.int .u8 ((beB x k).toNat : Int)] 5)
      have hnb : (wr.alloc (.cells #[.int .u8 ((beB x k).toNat : Int)] 5)).heap[wr.heap.size]? = some (.cells [Value.int .u8 ((beB x k).toNat : Int)].toArray 5 (0, 0)) := heap_alloc_new wr _
      have hbs := hbel.size
      obtain ⟨g, cap, w3, hrun, hown3, hgrow, hat, hlt3⟩ := run_append_bytes (wr.alloc (.cells #[.int .u8 ((beB x k).toNat : Int)] 5)) (base := w.heap.size) (by simp; omega) _ (l.length + j) _ hownA wr.heap.size 0 1 1 [beB x k] rfl (range_whole hnb) (by omega) (by omega)
      have hb3 : Below w.heap.size w w3 := (hbel.alloc hbel.size _).grown hgrow (by simp; omega) (fun k hk => (hown.lt k hk).1)
      have hown3' : w3.ownsRow w.heap.size 5 1 (.slice (some ⟨g, 0, none⟩) (l.length + j + 1) cap) (l.length + (j + 1)) (bvs (l ++ (be n x).take (j + 1))) := by
        rw [be_take n x j hlt, ← hkn, ← List.append_assoc]; exact hown3
      have hrunH := hidden hrun
      clear hrun hown3 hownA hnb hown hat hlt3 hkn
      go_wp2_with ((with_reducible apply lit_append); exact hrunH.out; simp only [Act.put, List.setIfInBounds_toArray, List.set_cons_zero, List.set_cons_succ])
      go_roundw
      case rel => exact ⟨j + 1, hlt, by go_num, hown3', hb3⟩
      case measure => (simp [intOf] <;> omega)
    · have hj' : j = n := by omega
      subst hj'
      rw [List.take_of_length_le (by rw [length_be]; omega)] at hown
      have hm1 : (j : Int) - 1 - j = -1 := by omega
      rw [hm1]
      obtain ⟨oa, oc2, rfl⟩ := own_form hown
      go_wp2_with fail
      go_ret
      refine ⟨_, (fun k => if k < w.heap.size then o k else (0, 0)), rfl, ⟨hbel.os, hbel.tape, hbel.output, hbel.size, fun k hk => if_pos hk, fun k hk _ => hbel.block k hk⟩, ?_, fun k hk => if_neg (by have := (hown.lt k hk).1; omega)⟩
      rw [List.length_append, length_be]; exact hown
end Go.Proofs.YtfgggkheadfiaaaR
/- Contracts: wire.Uint, log.small, log.number. -/
namespace Go.Proofs.YtfgggkheadfiaaaR
open Go Go.RowKit
attribute [local go_sem ↓] Go.wp_at_zero Go.wp_at_succ

theorem wuint_any {w : World} {o : Own} {v : Value} {l : List UInt8} (h : Bytes w o v l) (hll : l.length ≤ 4000000) (x : BitVec 64) :
    Calls Try.prog 104 #[v, .int .u64 (x.toNat : Int)] w (Ret Nobody w o fun v w' o' => NewB w w' o' v (l ++ be 8 x)) := by
  have hc := wnumber_any h hll x 8 (by omega)
  go_enter Try.func104, Try.ntmps104
  go_wp2_with fail
  refine hc.mono ?_; rintro e w1 ⟨v1, o1, rfl, hs, hn⟩
  go_wp2_with fail
  go_ret
  exact ⟨_, o1, rfl, hs, hn⟩

/-- The number that bytes say, the highest first (what falls out above is gone). -/
def num (l : List UInt8) : BitVec 64 := l.foldl (fun n c => (n <<< 8) ||| BitVec.ofNat 64 c.toNat) 0
theorem num_snoc (l : List UInt8) (c : UInt8) : num (l ++ [c]) = (num l <<< 8) ||| BitVec.ofNat 64 c.toNat := by simp [num]
theorem ofU8 (c : UInt8) : ((BitVec.ofNat 64 c.toNat).toNat : Int) = (c.toNat : Int) := by
  have := c.toNat_lt; simp
theorem bits_or (x y : BitVec 64) : bits .or .u64 (x.toNat : Int) (y.toNat : Int) = ((x ||| y).toNat : Int) := by
  have hb : ∀ x y : BitVec 64, bits .or .u64 (x.toNat : Int) (y.toNat : Int) = IntKind.u64.wrap (((BitVec.ofInt 64 (x.toNat : Int)) ||| (BitVec.ofInt 64 (y.toNat : Int))).toNat : Int) := fun x y => rfl
  rw [hb, ofInt64, ofInt64, wrap64]
theorem wrap_shl8 (x : BitVec 64) : IntKind.u64.wrap ((x.toNat : Int) * 256) = ((x <<< 8).toNat : Int) := by
  rw [BitVec.toNat_shiftLeft, Nat.shiftLeft_eq]
  simp [IntKind.wrap, IntKind.bits, IntKind.signed]
theorem wrap_u8 (c : UInt8) : IntKind.u64.wrap (c.toNat : Int) = ((BitVec.ofNat 64 c.toNat).toNat : Int) := by
  have := wrap64 (BitVec.ofNat 64 c.toNat)
  rw [ofU8] at this; rw [this, ofU8]
set_option maxRecDepth 100000 in
set_option maxHeartbeats 1600000 in
theorem lnumber_any {w : World} {o : Own} {v : Value} {l : List UInt8} (h : Bytes w o v l) (hll : l.length ≤ 4000000) :
    Calls Try.prog 77 #[v] w fun e w' => e = .returned (.int .u64 ((num l).toNat : Int)) ∧ w = w' := by
  obtain ⟨a, c, hv⟩ := slc_form h
  have hcell : ∀ i (hi : i < l.length), ∃ b off, a = some ⟨b, off, none⟩ ∧ w.cell? ⟨b, off + i, none⟩ = some (.int .u8 ((l[i].toNat : Int))) := by
    intro i hi
    rcases h.cases with ⟨_, rfl⟩ | ⟨b, off, cap, hv2, hl, hm, ho, hb, hr⟩
    · simp at hi
    · rw [hv] at hv2
      simp only [Value.slice.injEq] at hv2
      refine ⟨b, off, hv2.1, hr i _ ?_⟩
      rw [get_bvs, List.getElem?_eq_getElem hi]; rfl
  subst hv
  clear h
  go_enter Try.func77, Try.ntmps77
  go_wp2_with fail
  go_loop [3, 8] (fun n i => ∃ k : Nat, k ≤ l.length ∧ i = .int .i64 k ∧ n = .int .u64 ((num (l.take k)).toNat : Int)) (fun _ i => l.length - (intOf i).toNat)
  case atStart => exact ⟨0, Nat.zero_le _, rfl, rfl⟩
  case round =>
    obtain ⟨k, hk, rfl, rfl⟩ := hrel
    by_cases hlt : k < l.length
    · obtain ⟨b, off, rfl, hc⟩ := hcell k hlt
      have hsn : num (l.take (k + 1)) = (num (l.take k) <<< 8) ||| BitVec.ofNat 64 l[k].toNat := by
        rw [List.take_succ_eq_append_getElem hlt, num_snoc]
      have hsnH := hidden hsn
      clear hsn hcell
      generalize hcc : l[k] = cc at *
      clear hcc
      go_wp2_with fail
      go_round
      case rel => exact ⟨k + 1, hlt, by go_num, by rw [hsnH.out, ← bits_or, ← wrap_shl8, ← wrap_u8]⟩
      case measure => simp [intOf]; omega
    · have hk' : k = l.length := by omega
      subst hk'
      rw [List.take_length]
      go_wp2_with fail
      go_ret
      exact ⟨rfl, rfl⟩
end Go.Proofs.YtfgggkheadfiaaaR
/- Contract: crc.Sum. -/
namespace Go.Proofs.YtfgggkheadfiaaaR
open Go Go.RowKit
attribute [local go_sem ↓] Go.wp_at_zero Go.wp_at_succ

def crcOut : BitVec 64 := 0xc96c5795d7870f42#64
def crcStep (n : BitVec 64) : BitVec 64 := (n >>> 1) ^^^ (crcOut &&& -(n &&& 1#64))
def crcSteps (n : BitVec 64) : Nat → BitVec 64
  | 0 => n
  | k + 1 => crcStep (crcSteps n k)
def crcByte (n : BitVec 64) (c : UInt8) : BitVec 64 := crcSteps (n ^^^ BitVec.ofNat 64 c.toNat) 8
def crcRun (l : List UInt8) : BitVec 64 := l.foldl crcByte (BitVec.allOnes 64)
def crcSum (l : List UInt8) : BitVec 64 := ~~~ crcRun l
theorem crcRun_snoc (l : List UInt8) (c : UInt8) : crcRun (l ++ [c]) = crcByte (crcRun l) c := by simp [crcRun]

theorem bits_xor (x y : BitVec 64) : bits .xor .u64 (x.toNat : Int) (y.toNat : Int) = ((x ^^^ y).toNat : Int) := by
  have hb : ∀ x y : BitVec 64, bits .xor .u64 (x.toNat : Int) (y.toNat : Int) = IntKind.u64.wrap (((BitVec.ofInt 64 (x.toNat : Int)) ^^^ (BitVec.ofInt 64 (y.toNat : Int))).toNat : Int) := fun x y => rfl
  rw [hb, ofInt64, ofInt64, wrap64]
theorem bits_and (x y : BitVec 64) : bits .and .u64 (x.toNat : Int) (y.toNat : Int) = ((x &&& y).toNat : Int) := by
  have hb : ∀ x y : BitVec 64, bits .and .u64 (x.toNat : Int) (y.toNat : Int) = IntKind.u64.wrap (((BitVec.ofInt 64 (x.toNat : Int)) &&& (BitVec.ofInt 64 (y.toNat : Int))).toNat : Int) := fun x y => rfl
  rw [hb, ofInt64, ofInt64, wrap64]
theorem wrap_neg (x : BitVec 64) : IntKind.u64.wrap (-(x.toNat : Int)) = ((-x).toNat : Int) := by
  have := x.isLt
  rw [BitVec.toNat_neg]
  simp only [IntKind.wrap, IntKind.bits, IntKind.signed]
  simp
  omega
theorem crcNot_int (y : BitVec 64) : bits .xor .u64 IntKind.u64.max (y.toNat : Int) = ((~~~y).toNat : Int) := by
  have h1 := bits_xor (BitVec.allOnes 64) y
  have h2 : ((BitVec.allOnes 64).toNat : Int) = IntKind.u64.max := by decide
  rw [h2, BitVec.allOnes_xor] at h1
  exact h1
theorem crcStep_int (y : BitVec 64) : bits .xor .u64 ((y.toNat : Int) / 2) (bits .and .u64 14514072000185962306 (IntKind.u64.wrap (-bits .and .u64 (y.toNat : Int) 1))) = ((crcStep y).toNat : Int) := by
  have h1 : bits .and .u64 (y.toNat : Int) 1 = ((y &&& 1#64).toNat : Int) := bits_and y 1#64
  have h2 : (y.toNat : Int) / (2 : Int) = ((y >>> 1).toNat : Int) := by
    rw [BitVec.toNat_ushiftRight, Nat.shiftRight_eq_div_pow]; simp
  rw [h1, wrap_neg, h2]
  have h3 := bits_and crcOut (-(y &&& 1#64))
  have h4 : ((crcOut).toNat : Int) = 14514072000185962306 := by decide
  rw [h4] at h3
  rw [h3, bits_xor]; rfl
set_option maxRecDepth 100000 in
set_option maxHeartbeats 1600000 in
theorem crc_any {w : World} {o : Own} {v : Value} {l : List UInt8} (h : Bytes w o v l) (hll : l.length ≤ 1000000) :
    Calls Try.prog 120 #[v] w fun e w' => e = .returned (.int .u64 ((crcSum l).toNat : Int)) ∧ w = w' := by
  obtain ⟨a, c, hv⟩ := slc_form h
  have hcell : ∀ i (hi : i < l.length), ∃ b off, a = some ⟨b, off, none⟩ ∧ w.cell? ⟨b, off + i, none⟩ = some (.int .u8 ((l[i].toNat : Int))) := by
    intro i hi
    rcases h.cases with ⟨_, rfl⟩ | ⟨b, off, cap, hv2, hl, hm, ho, hb, hr⟩
    · simp at hi
    · rw [hv] at hv2
      simp only [Value.slice.injEq] at hv2
      refine ⟨b, off, hv2.1, hr i _ ?_⟩
      rw [get_bvs, List.getElem?_eq_getElem hi]; rfl
  subst hv
  clear h
  go_enter Try.func120, Try.ntmps120
  go_wp2_with fail
  go_loop [3, 9] (fun n i => ∃ k : Nat, k ≤ l.length ∧ i = .int .i64 k ∧ n = .int .u64 ((crcRun (l.take k)).toNat : Int)) (fun _ i => l.length - (intOf i).toNat)
  case atStart => exact ⟨0, Nat.zero_le _, rfl, rfl⟩
  case round =>
    obtain ⟨k, hk, rfl, rfl⟩ := hrel
    by_cases hlt : k < l.length
    · obtain ⟨b, off, rfl, hc⟩ := hcell k hlt
      have hsn : crcRun (l.take (k + 1)) = crcSteps (crcRun (l.take k) ^^^ BitVec.ofNat 64 l[k].toNat) 8 := by
        rw [List.take_succ_eq_append_getElem hlt, crcRun_snoc]; rfl
      have hsnH := hidden hsn
      clear hsn hcell
      generalize hcc : l[k] = cc at *
      clear hcc
      generalize hcr : crcRun (l.take k) = m0 at *
      clear hcr
      go_wp2_with fail
      go_loop [3, 17] (fun n i => ∃ j : Nat, j ≤ 8 ∧ i = .int .i64 j ∧ n = .int .u64 ((crcSteps (m0 ^^^ BitVec.ofNat 64 cc.toNat) j).toNat : Int)) (fun _ i => 8 - (intOf i).toNat)
      case atStart => exact ⟨0, by omega, rfl, by rw [wrap_u8, bits_xor]; rfl⟩
      case round =>
        obtain ⟨j, hj, rfl, rfl⟩ := hrel
        by_cases hlt2 : j < 8
        · have hst : crcSteps (m0 ^^^ BitVec.ofNat 64 cc.toNat) (j + 1) = crcStep (crcSteps (m0 ^^^ BitVec.ofNat 64 cc.toNat) j) := rfl
          have hstH := hidden hst
          clear hst
          generalize crcSteps (m0 ^^^ BitVec.ofNat 64 cc.toNat) j = y at *
          go_wp2_with fail
          go_round
          case rel => exact ⟨j + 1, hlt2, by go_num, by rw [hstH.out, ← crcStep_int]⟩
          case measure => simp [intOf]; omega
        · have : j = 8 := by omega
          subst this
          go_wp2_with fail
          go_round
          case rel => exact ⟨k + 1, hlt, by go_num, by rw [hsnH.out]⟩
          case measure => simp [intOf]; omega
    · have hk' : k = l.length := by omega
      subst hk'
      rw [List.take_length]
      go_wp2_with fail
      go_ret
      refine ⟨?_, rfl⟩
      show Ending.returned (Value.int .u64 (bits .xor .u64 IntKind.u64.max ((crcRun l).toNat : Int))) = _
      rw [crcNot_int]; rfl
end Go.Proofs.YtfgggkheadfiaaaR
/- The log as a plain Lean thing: leaves and pages, what pages say, the log's own acts on a disk. No program in sight. -/
namespace Go.Proofs.YtfgggkheadfiaaaR
open Go Go.RowKit

structure LeafM where
  stamp : BitVec 64
  at' : Nat
  of' : Nat
  bytes : List UInt8

namespace LeafM
def said (x : LeafM) : List UInt8 :=
  be 8 x.stamp ++ be 2 (BitVec.ofNat 64 x.at') ++ be 2 (BitVec.ofNat 64 x.of') ++ be 4 (BitVec.ofNat 64 x.bytes.length) ++ x.bytes ++ List.replicate (480 - x.bytes.length) 0
def page (x : LeafM) : List UInt8 := x.said ++ (be 8 (crcSum x.said)).reverse ++ be 8 x.stamp
theorem length_said {x : LeafM} (h : x.bytes.length ≤ 480) : x.said.length = 496 := by
  simp [said, length_be]; omega
theorem length_page {x : LeafM} (h : x.bytes.length ≤ 480) : x.page.length = 512 := by
  simp [page, length_be, length_said h]
end LeafM
def noLeaf : LeafM := ⟨0, 0, 0, []⟩
/-- What a page says. -/
def leafOf (p : List UInt8) : LeafM := ⟨num (p.take 8), (num ((p.drop 8).take 2)).toNat, (num ((p.drop 10).take 2)).toNat, (p.drop 16).take (num ((p.drop 12).take 4)).toNat⟩
def saysOk (p : List UInt8) : Bool := !(num (p.take 8) == 0#64) && decide ((num ((p.drop 12).take 4)).toNat ≤ 480) && ((leafOf p).page == p)
def saidL (p : List UInt8) : LeafM × Bool :=
  if num (p.take 8) = 0#64 ∨ 480 < (num ((p.drop 12).take 4)).toNat then (noLeaf, false) else (leafOf p, (leafOf p).page == p)

structure LogM where
  first : Nat
  n : Nat
  stamp : BitVec 64
  headed : Bool
  end' : Nat
  records : List (List UInt8)
  dead : Bool

namespace LogM
def umax (a b : BitVec 64) : BitVec 64 := if a.toNat < b.toNat then b else a
def newest (pages : List (List UInt8)) : BitVec 64 := pages.foldl (fun s p => umax (umax s (num (p.take 8))) (num (p.drop 504))) 0
def leavesOf (pages : List (List UInt8)) : List LeafM := (pages.takeWhile fun p => (saidL p).2).map fun p => (saidL p).1
/-- Is a run of leaves one record? -/
def run (stamp : BitVec 64) (of' : Nat) : Nat → List LeafM → Bool
  | _, [] => true
  | i, y :: r => y.stamp == stamp && y.at' == i && y.of' == of' && run stamp of' (i + 1) r
/-- The record that begins at leaf e: how many leaves, their stamp, its bytes. -/
def accept (leaves : List LeafM) (e : Nat) (last : BitVec 64) : Option (Nat × BitVec 64 × List UInt8) :=
  match leaves[e]? with
  | none => none
  | some x =>
    if x.stamp.toNat ≤ last.toNat ∨ x.of' < 1 ∨ leaves.length - e < x.of' then none
    else if run x.stamp x.of' 0 ((leaves.drop e).take x.of') then some (x.of', x.stamp, ((leaves.drop e).take x.of').flatMap LeafM.bytes) else none
/-- From the end so far, the last stamp, and the records so far. -/
def readL (leaves : List LeafM) : Nat → Nat × BitVec 64 × List (List UInt8) → Nat × BitVec 64 × List (List UInt8)
  | 0, s => s
  | f + 1, s =>
    match accept leaves s.1 s.2.1 with
    | none => s
    | some r => readL leaves f (s.1 + r.1, r.2.1, s.2.2 ++ [r.2.2])
def isHead : List LeafM → Bool
  | [] => false
  | x :: _ => x.at' == 0 && x.of' == 0 && x.bytes.length == 0
def headStamp : List LeafM → BitVec 64
  | [] => 0
  | x :: _ => x.stamp
def readAll (ls : List LeafM) : Nat × BitVec 64 × List (List UInt8) := readL ls ls.length (1, headStamp ls, [])
/-- The log that pages tell. -/
def ofPages (first : Nat) (pages : List (List UInt8)) : LogM :=
  let ls := leavesOf pages
  { first := first, n := pages.length, stamp := newest pages, headed := isHead ls, end' := if isHead ls then (readAll ls).1 else 1, records := if isHead ls then (readAll ls).2.2 else [], dead := false }
def seenPages (d : DiskM) (first n : Nat) : List (List UInt8) := (List.range n).map fun i => d.seen (first + i)
/-- Open: an error, or a log. -/
def openL (d : DiskM) (first n : Int) : Option LogM × Int :=
  if d.dead then (none, 9)
  else if n < 2 ∨ first < 0 ∨ (d.pages.length : Int) - n < first then (none, 1)
  else if newest (seenPages d first.toNat n.toNat) = BitVec.allOnes 64 then (none, 2)
  else (some (ofPages first.toNat (seenPages d first.toNat n.toNat)), 0)
def room (l : LogM) : Nat := 480 * (l.n - l.end')
def many (b : List UInt8) : Nat := max 1 ((b.length + 479) / 480)
def part (b : List UInt8) (i : Nat) : List UInt8 := (b.drop (480 * i)).take 480

/-! ### The acts: each on a log and its disk -/
def head (s : LogM × DiskM) : (LogM × DiskM) × Int :=
  let l := { s.1 with stamp := s.1.stamp + 1#64 }
  let r := s.2.write l.first (LeafM.page ⟨l.stamp, 0, 0, []⟩)
  if r.2 ≠ 0 then ((l, r.1), r.2) else ((l, r.1.sync.1), r.1.sync.2)
/-- The leaves from number i on are written. -/
def put (l : LogM) (of' : Nat) (b : List UInt8) : Nat → Nat → DiskM → DiskM × Int
  | 0, _, d => (d, 0)
  | k + 1, i, d =>
    let r := d.write ((l.first + l.end' + i : Nat) : Int) (LeafM.page ⟨l.stamp, i, of', part b i⟩)
    if r.2 ≠ 0 then r else put l of' b k (i + 1) r.1
def step1 (b : List UInt8) (s : LogM × DiskM) : (LogM × DiskM) × Int := if s.1.n - s.1.end' < many b then (s, 4) else (s, 0)
def step2 (s : LogM × DiskM) : (LogM × DiskM) × Int :=
  if s.1.headed then (s, 0) else
    let r := head s
    (({ r.1.1 with headed := r.2 == 0 }, r.1.2), r.2)
def step3 (b : List UInt8) (s : LogM × DiskM) : (LogM × DiskM) × Int :=
  let l := { s.1 with stamp := s.1.stamp + 1#64 }
  let r := put l (many b) b (many b) 0 s.2
  if r.2 ≠ 0 then ((l, r.1), r.2) else ((l, r.1.sync.1), r.1.sync.2)
def step4 (b : List UInt8) (s : LogM × DiskM) : (LogM × DiskM) × Int := (({ s.1 with records := s.1.records ++ [b], end' := s.1.end' + many b }, s.2), 0)
def reset2 (s : LogM × DiskM) : (LogM × DiskM) × Int := (({ s.1 with headed := true, records := [], end' := 1 }, s.2), 0)
def steps : List ((LogM × DiskM) → (LogM × DiskM) × Int) → (LogM × DiskM) → (LogM × DiskM) × Int
  | [], s => (s, 0)
  | f :: r, s => if (f s).2 ≠ 0 then (({ (f s).1.1 with dead := (f s).1.1.dead || (f s).2 == 9 }, (f s).1.2), (f s).2) else steps r (f s).1
def alive (fs : List ((LogM × DiskM) → (LogM × DiskM) × Int)) (s : LogM × DiskM) : (LogM × DiskM) × Int :=
  if s.1.dead || s.2.dead then (s, 9) else steps fs s
def commit (b : List UInt8) (s : LogM × DiskM) : (LogM × DiskM) × Int := alive [step1 b, step2, step3 b, step4 b] s
def reset (s : LogM × DiskM) : (LogM × DiskM) × Int := alive [head, reset2] s
end LogM
end Go.Proofs.YtfgggkheadfiaaaR
/- Plain laws: numbers of bytes, the highest first; what a leaf's own page says. No program in sight. -/
namespace Go.Proofs.YtfgggkheadfiaaaR
open Go Go.RowKit

def numN (l : List UInt8) : Nat := l.foldl (fun n c => n * 256 + c.toNat) 0
theorem numN_foldl (l : List UInt8) : ∀ n : Nat, l.foldl (fun n c => n * 256 + c.toNat) n = n * 256 ^ l.length + numN l := by
  unfold numN
  induction l with
  | nil => intro n; simp
  | cons c r ih =>
    intro n
    simp only [List.foldl_cons, List.length_cons]
    rw [ih (n * 256 + c.toNat), ih (0 * 256 + c.toNat), Nat.pow_succ]
    rw [Nat.add_mul, Nat.zero_mul, Nat.zero_add, Nat.mul_assoc, Nat.mul_comm 256, Nat.add_assoc]
theorem numN_cons (c : UInt8) (l : List UInt8) : numN (c :: l) = c.toNat * 256 ^ l.length + numN l := by
  have := numN_foldl l (0 * 256 + c.toNat)
  unfold numN at this ⊢
  simp only [List.foldl_cons]
  rw [this]; simp
theorem numN_lt (l : List UInt8) : numN l < 256 ^ l.length := by
  induction l with
  | nil => simp [numN]
  | cons c r ih =>
    rw [numN_cons, List.length_cons, Nat.pow_succ]
    have h1 := c.toNat_lt
    have h2 : c.toNat * 256 ^ r.length ≤ 255 * 256 ^ r.length := Nat.mul_le_mul_right _ (by omega)
    omega
theorem numN_inj : ∀ {a b : List UInt8}, a.length = b.length → numN a = numN b → a = b
  | [], [], _, _ => rfl
  | [], _ :: _, h, _ => by simp at h
  | _ :: _, [], h, _ => by simp at h
  | x :: a, y :: b, h, e => by
    have hl : a.length = b.length := by simpa using h
    rw [numN_cons, numN_cons, hl] at e
    have h1 := numN_lt a
    have h2 := numN_lt b
    rw [hl] at h1
    have hp : 0 < 256 ^ b.length := Nat.pow_pos (by omega)
    have e1 : x.toNat = y.toNat := by
      have := congrArg (fun t => t / 256 ^ b.length) e
      rw [Nat.add_comm, Nat.add_mul_div_right _ _ hp, Nat.div_eq_of_lt h1, Nat.add_comm, Nat.add_comm (y.toNat * _), Nat.add_mul_div_right _ _ hp, Nat.div_eq_of_lt h2] at this
      omega
    have e2 : numN a = numN b := by rw [e1] at e; omega
    rw [UInt8.toNat_inj.1 e1, numN_inj hl e2]
theorem num_toNat (l : List UInt8) : (num l).toNat = numN l % 2 ^ 64 := by
  have key : ∀ (l : List UInt8) (n : Nat), (l.foldl (fun (n : BitVec 64) (c : UInt8) => (n <<< 8) ||| BitVec.ofNat 64 c.toNat) (BitVec.ofNat 64 n)) = BitVec.ofNat 64 (l.foldl (fun n c => n * 256 + c.toNat) n) := by
    intro l
    induction l with
    | nil => intro n; rfl
    | cons c r ih =>
      intro n
      simp only [List.foldl_cons]
      rw [← ih]
      congr 1
      have hc := c.toNat_lt
      apply BitVec.eq_of_toNat_eq
      have hd : BitVec.ofNat 64 n <<< 8 &&& BitVec.ofNat 64 c.toNat = 0#64 := by
        apply BitVec.eq_of_getLsbD_eq
        intro i hi
        simp only [BitVec.getLsbD_and, BitVec.getLsbD_shiftLeft, BitVec.getLsbD_ofNat]
        by_cases h8 : i < 8
        · simp [h8]
        · have : c.toNat.testBit i = false := Nat.testBit_lt_two_pow (Nat.lt_of_lt_of_le hc (Nat.pow_le_pow_right (by omega) (show 8 ≤ i by omega)))
          simp [this]
      rw [← BitVec.add_eq_or_of_and_eq_zero _ _ hd]
      simp only [BitVec.toNat_add, BitVec.toNat_shiftLeft, BitVec.toNat_ofNat, Nat.shiftLeft_eq]
      omega
  have := key l 0
  unfold num numN
  rw [show (0 : BitVec 64) = BitVec.ofNat 64 0 from rfl, this]
  simp
theorem num_small {l : List UInt8} (h : l.length ≤ 8) : (num l).toNat = numN l := by
  rw [num_toNat]
  apply Nat.mod_eq_of_lt
  have h1 := numN_lt l
  have h2 : 256 ^ l.length ≤ 256 ^ 8 := Nat.pow_le_pow_right (by omega) h
  have : (256 : Nat) ^ 8 = 2 ^ 64 := by decide
  omega
theorem be_succ (n : Nat) (x : BitVec 64) : be (n + 1) x = beB x n :: be n x := by
  unfold be
  rw [List.range_succ_eq_map, List.map_cons, List.map_map]
  congr 1
  apply List.map_congr_left
  intro i _
  simp only [Function.comp]
  congr 1
  omega
theorem beB_toNat (x : BitVec 64) (k : Nat) : (beB x k).toNat = x.toNat / 256 ^ k % 256 := by
  unfold beB
  rw [UInt8.toNat_ofNat', BitVec.toNat_ushiftRight, Nat.shiftRight_eq_div_pow, Nat.pow_mul]
theorem numN_be (x : BitVec 64) : ∀ n : Nat, numN (be n x) = x.toNat % 256 ^ n
  | 0 => by simp [be, numN, Nat.mod_one]
  | n + 1 => by
    rw [be_succ, numN_cons, numN_be x n, length_be, beB_toNat, Nat.pow_succ, Nat.mod_mul]
    rw [Nat.mul_comm, Nat.add_comm]
theorem num_be {n : Nat} (hn : n ≤ 8) (x : BitVec 64) (hx : x.toNat < 256 ^ n) : (num (be n x)).toNat = x.toNat := by
  rw [num_small (by rw [length_be]; exact hn), numN_be, Nat.mod_eq_of_lt hx]
theorem num_be8 (x : BitVec 64) : num (be 8 x) = x := BitVec.eq_of_toNat_eq (num_be (by omega) x (Nat.lt_of_lt_of_le x.isLt (by decide)))


namespace LeafM
def ok (x : LeafM) : Prop := x.stamp ≠ 0#64 ∧ x.at' < 65536 ∧ x.of' < 65536 ∧ x.bytes.length ≤ 480
theorem page_parts (x : LeafM) (h : x.bytes.length ≤ 480) : x.page.take 8 = be 8 x.stamp ∧ (x.page.drop 8).take 2 = be 2 (BitVec.ofNat 64 x.at') ∧ (x.page.drop 10).take 2 = be 2 (BitVec.ofNat 64 x.of') ∧
    (x.page.drop 12).take 4 = be 4 (BitVec.ofNat 64 x.bytes.length) ∧ (x.page.drop 16).take x.bytes.length = x.bytes ∧ x.page.drop 504 = be 8 x.stamp := by
  have h8 := length_be 8 x.stamp
  have h2 := length_be 2 (BitVec.ofNat 64 x.at')
  have h2' := length_be 2 (BitVec.ofNat 64 x.of')
  have h4 := length_be 4 (BitVec.ofNat 64 x.bytes.length)
  have hs := length_said h
  have hr : (be 8 (crcSum x.said)).reverse.length = 8 := by simp [length_be]
  have key : ∀ (a b c : List UInt8) (n m : Nat), a.length = n → b.length = m → ((a ++ (b ++ c)).drop n).take m = b := by
    intro a b c n m ha hb
    rw [List.drop_left' ha, List.take_left' hb]
  have hp : x.page = be 8 x.stamp ++ (be 2 (BitVec.ofNat 64 x.at') ++ (be 2 (BitVec.ofNat 64 x.of') ++ (be 4 (BitVec.ofNat 64 x.bytes.length) ++ (x.bytes ++ (List.replicate (480 - x.bytes.length) 0 ++ ((be 8 (crcSum x.said)).reverse ++ be 8 x.stamp)))))) := by
    simp only [page, said, List.append_assoc]
  refine ⟨?_, ?_, ?_, ?_, ?_, ?_⟩
  · rw [hp, List.take_left' h8]
  · rw [hp]; exact key _ _ _ _ _ h8 h2
  · rw [hp, ← List.append_assoc]; exact key _ _ _ _ _ (by simp [length_be]) h2'
  · rw [hp, ← List.append_assoc, ← List.append_assoc]; exact key _ _ _ _ _ (by simp [length_be]) h4
  · rw [hp, ← List.append_assoc, ← List.append_assoc, ← List.append_assoc]; exact key _ _ _ _ _ (by simp [length_be]) rfl
  · unfold page; rw [List.drop_left' (by simp [length_be, hs])]
theorem leafOf_page {x : LeafM} (h : x.ok) : leafOf x.page = x := by
  obtain ⟨h0, h1, h2, h3⟩ := h
  obtain ⟨e1, e2, e3, e4, e5, _⟩ := page_parts x h3
  have n2 : (num (be 2 (BitVec.ofNat 64 x.at'))).toNat = x.at' := by
    have : (BitVec.ofNat 64 x.at').toNat = x.at' := by simp; omega
    rw [num_be (by omega) _ (by rw [this]; omega), this]
  have n3 : (num (be 2 (BitVec.ofNat 64 x.of'))).toNat = x.of' := by
    have : (BitVec.ofNat 64 x.of').toNat = x.of' := by simp; omega
    rw [num_be (by omega) _ (by rw [this]; omega), this]
  have n4 : (num (be 4 (BitVec.ofNat 64 x.bytes.length))).toNat = x.bytes.length := by
    have : (BitVec.ofNat 64 x.bytes.length).toNat = x.bytes.length := by simp; omega
    rw [num_be (by omega) _ (by rw [this]; omega), this]
  unfold leafOf
  rw [e1, e2, e3, e4, n2, n3, n4, e5, num_be8]
theorem saidL_page {x : LeafM} (h : x.ok) : saidL x.page = (x, true) := by
  have hl := leafOf_page h
  obtain ⟨h0, h1, h2, h3⟩ := h
  obtain ⟨e1, e2, e3, e4, e5, _⟩ := page_parts x h3
  have n4 : (num (be 4 (BitVec.ofNat 64 x.bytes.length))).toNat = x.bytes.length := by
    have : (BitVec.ofNat 64 x.bytes.length).toNat = x.bytes.length := by simp; omega
    rw [num_be (by omega) _ (by rw [this]; omega), this]
  unfold saidL
  rw [e1, e4, n4, num_be8, if_neg (by simp only [not_or]; exact ⟨h0, by omega⟩), hl]
  simp
end LeafM
/-- A page that says something is the page of what it says. -/
theorem saidL_true {p : List UInt8} (h : (saidL p).2 = true) : saidL p = (leafOf p, true) ∧ (leafOf p).page = p ∧ (num ((p.drop 12).take 4)).toNat ≤ 480 ∧ num (p.take 8) ≠ 0#64 := by
  unfold saidL at h ⊢
  split at h
  · cases h
  · rename_i hc
    rw [if_neg hc]
    simp only [not_or, Nat.not_lt] at hc
    have h' : (leafOf p).page = p := by simpa using h
    exact ⟨by rw [h']; simp, h', hc.2, hc.1⟩
theorem leafOf_len (p : List UInt8) (h : (num ((p.drop 12).take 4)).toNat ≤ 480) : (leafOf p).bytes.length ≤ 480 := by
  simp only [leafOf, List.length_take]; omega
end Go.Proofs.YtfgggkheadfiaaaR
/- Regions that draw their order: several operations that may come up in more than one order (calls that make memory, and makes), each with what it leaves; whatever the order, behind all of them all of it holds. -/
namespace Go.Proofs.YtfgggkheadfiaaaR
open Go Go.RowKit

def Act.puts (a : Act) : List Nat → List Value → Act
  | d :: ds, u :: us => Act.puts (a.put (some d) u) ds us
  | _, _ => a
theorem put_put (a : Act) (d : Nat) (u v : Value) : (a.put (some d) u).put (some d) v = a.put (some d) v := by
  simp [Act.put]
theorem put_swap (a : Act) (d e : Nat) (u v : Value) (h : d ≠ e) : (a.put (some d) u).put (some e) v = (a.put (some e) v).put (some d) u := by
  simp only [Act.put]
  rw [Array.setIfInBounds_comm _ _ h]
theorem puts_put : ∀ (ds : List Nat) (us : List Value) (a : Act) (d : Nat) (v : Value), d ∉ ds → (Act.puts a ds us).put (some d) v = Act.puts (a.put (some d) v) ds us
  | [], _, _, _, _, _ => rfl
  | _ :: _, [], _, _, _, _ => rfl
  | e :: ds, u :: us, a, d, v, h => by
    simp only [List.mem_cons, not_or] at h
    simp only [Act.puts]
    rw [puts_put ds us _ d v h.2, put_swap _ _ _ _ _ (Ne.symm h.1)]
theorem puts_set : ∀ (ds : List Nat) (us : List Value) (a : Act) (k d : Nat) (v : Value), ds.Nodup → ds[k]? = some d → ds.length = us.length → Act.puts a ds (us.set k v) = (Act.puts a ds us).put (some d) v
  | [], _, _, _, _, _, _, h, _ => by simp at h
  | _ :: _, [], _, _, _, _, _, _, h => by simp at h
  | e :: ds, u :: us, a, 0, d, v, hn, h, hl => by
    simp only [List.getElem?_cons_zero, Option.some.injEq] at h
    subst h
    simp only [List.set_cons_zero, Act.puts]
    rw [puts_put ds us _ _ _ (List.nodup_cons.1 hn).1, put_put]
  | e :: ds, u :: us, a, k + 1, d, v, hn, h, hl => by
    simp only [List.set_cons_succ, Act.puts]
    exact puts_set ds us _ k d v (List.nodup_cons.1 hn).2 (by simpa using h) (by simpa using hl)
/-- What has come up: of the operations idx those that s tells, and what had before. -/
def listedOf (l : Array Bool) : List Nat → List Bool → Array Bool
  | i :: is, b :: s => listedOf (if b then l.setIfInBounds i true else l) is s
  | _, _ => l
theorem set_swap (l : Array Bool) (i j : Nat) : (l.setIfInBounds i true).setIfInBounds j true = (l.setIfInBounds j true).setIfInBounds i true := by
  by_cases h : i = j
  · subst h; rfl
  · rw [Array.setIfInBounds_comm _ _ h]
theorem listedOf_comm : ∀ (is : List Nat) (s : List Bool) (l : Array Bool) (i : Nat), listedOf (l.setIfInBounds i true) is s = (listedOf l is s).setIfInBounds i true
  | [], _, _, _ => rfl
  | _ :: _, [], _, _ => rfl
  | j :: is, b :: s, l, i => by
    simp only [listedOf]
    cases b
    · simp only [Bool.false_eq_true, if_false]; exact listedOf_comm is s l i
    · simp only [if_true]; rw [set_swap, listedOf_comm is s _ i]
theorem listedOf_set : ∀ (is : List Nat) (s : List Bool) (l : Array Bool) (k i : Nat), is[k]? = some i → is.length = s.length → s[k]? = some false → listedOf l is (s.set k true) = (listedOf l is s).setIfInBounds i true
  | [], _, _, _, _, h, _, _ => by simp at h
  | _ :: _, [], _, _, _, _, h, _ => by simp at h
  | j :: is, b :: s, l, 0, i, h, hl, hb => by
    simp only [List.getElem?_cons_zero, Option.some.injEq] at h hb
    subst h; subst hb
    simp only [List.set_cons_zero, listedOf, if_true, Bool.false_eq_true, if_false]
    exact listedOf_comm is s l _
  | j :: is, b :: s, l, k + 1, i, h, hl, hb => by
    simp only [List.set_cons_succ, listedOf]
    exact listedOf_set is s _ k i (by simpa using h) (by simpa using hl) (by simpa using hb)
theorem listedOf_true : ∀ (is : List Nat) (s : List Bool) (l : Array Bool) (k i : Nat), is[k]? = some i → s[k]? = some true → (listedOf l is s).getD i true = true
  | [], _, _, _, _, h, _ => by simp at h
  | _ :: _, [], _, _, _, _, h => by simp at h
  | j :: is, b :: s, l, 0, i, h, hb => by
    simp only [List.getElem?_cons_zero, Option.some.injEq] at h hb
    subst h; subst hb
    simp only [listedOf, if_true]
    rw [listedOf_comm]
    by_cases hx : j < (listedOf l is s).size
    · simp [hx]
    · rw [Array.getD_eq_getD_getElem?, Array.getElem?_eq_none (by simpa using hx)]; rfl
  | j :: is, b :: s, l, k + 1, i, h, hb => by
    simp only [listedOf]
    exact listedOf_true is s _ k i (by simpa using h) (by simpa using hb)
theorem listedOf_false : ∀ (is : List Nat) (s : List Bool) (l : Array Bool) (k i : Nat), is.Nodup → is[k]? = some i → s[k]? = some false → l.getD i false = false → (listedOf l is s).getD i false = false
  | [], _, _, _, _, _, h, _, _ => by simp at h
  | _ :: _, [], _, _, _, _, _, h, _ => by simp at h
  | j :: is, b :: s, l, 0, i, hn, h, hb, hf => by
    simp only [List.getElem?_cons_zero, Option.some.injEq] at h hb
    subst h; subst hb
    simp only [listedOf, Bool.false_eq_true, if_false]
    have hni := (List.nodup_cons.1 hn).1
    clear hn
    induction is generalizing s l with
    | nil => exact hf
    | cons q is ih =>
      cases s with
      | nil => exact hf
      | cons c s =>
        simp only [List.mem_cons, not_or] at hni
        simp only [listedOf]
        refine ih s _ ?_ hni.2
        split
        · rw [getD_set_ne false (Ne.symm hni.1)]; exact hf
        · exact hf
  | j :: is, b :: s, l, k + 1, i, hn, h, hb, hf => by
    simp only [listedOf]
    have hn' := List.nodup_cons.1 hn
    have hne : j ≠ i := by
      rintro rfl
      exact hn'.1 (List.mem_of_getElem? (by simpa using h))
    refine listedOf_false is s _ k i hn'.2 (by simpa using h) (by simpa using hb) ?_
    split
    · rw [getD_set_ne false hne]; exact hf
    · exact hf
def boolLists : Nat → List (List Bool)
  | 0 => [[]]
  | n + 1 => (boolLists n).map (true :: ·) ++ (boolLists n).map (false :: ·)
theorem mem_boolLists : ∀ (n : Nat) (s : List Bool), s.length = n → s ∈ boolLists n
  | 0, s, h => by rw [List.eq_nil_of_length_eq_zero h]; simp [boolLists]
  | n + 1, [], h => by simp at h
  | n + 1, b :: s, h => by
    have := mem_boolLists n s (by simpa using h)
    cases b <;> simp [boolLists, this]

section
variable {P : Program} {ops : Array Oper} {Q : Exit → Act → World → Prop} {md : Region.Mode} {S : World → Prop} {need : Nat → Bool}
/-- Till all of idx have come up, what may come up is of idx. -/
def midOk (md : Region.Mode) (ops : Array Oper) (l : Array Bool) (idx : List Nat) (dsts : List Nat) : Bool :=
  (idx.length == dsts.length) && decide idx.Nodup && decide dsts.Nodup && (idx.all fun i => !l.getD i false) && ((idx.zip dsts).all fun x => match ops[x.1]? with | some o => o.dst == some x.2 | none => false) &&
  (boolLists idx.length).all fun s => s.all (fun b => b) || (let rd := Region.ready md ops (listedOf l idx s); !rd.isEmpty && rd.all (fun i => idx.contains i))
def depOn (md : Region.Mode) (ops : Array Oper) (i j : Nat) : Bool := match ops[i]? with
  | some o => o.after.any fun e => Region.binds md e && e.on == j
  | none => false
/-- One operation alone, wherever it stands. -/
theorem wpOp_one {i : Nat} {oi : Oper} {a : Act} {w : World} {K : Act → World → Prop} (hi : ops[i]? = some oi) (h : wpList P ops (Exit.then K Q) [oi] a w) : wpOp P ops Q i K a w := by
  unfold wpOp
  simp only [hi]
  unfold wpList at h
  split
  · rename_i hw
    rw [if_pos hw] at h
    rcases h with h | ⟨ha, a', w', hQ⟩
    · left
      unfold Oper.wp at *
      generalize (execOp a.eval oi).run P w = r at *
      cases r with
      | ok n w' =>
        cases n <;> simp only [Oper.upon] at h ⊢
        case value u => exact h
        case skip => exact h
        case defer d => exact h
        case enter f args =>
          refine Calls.mono h fun e w'' he => ?_
          cases e with
          | returned u => exact he
          | panicked c => exact he
          | outgrown => obtain ⟨a1, w1, h1⟩ := he; exact ⟨a1, w1, h1⟩
        case row row args => exact Rows.mono h fun u w'' he => he
      | halt x w' =>
        cases x <;> simp only [Oper.upon] at h ⊢
        case panic u => exact h
    · exact .inr ⟨ha, a', w', hQ⟩
  · rename_i hw
    rw [if_neg hw] at h
    exact h

theorem count_set : ∀ (s : List Bool) (k : Nat), s[k]? = some false → (s.set k true).count false + 1 = s.count false
  | [], _, h => by simp at h
  | b :: s, 0, h => by
    simp only [List.getElem?_cons_zero, Option.some.injEq] at h
    subst h; simp
  | b :: s, k + 1, h => by
    have := count_set s k (by simpa using h)
    simp only [List.set_cons_succ, List.count_cons]
    omega
theorem all_of_count : ∀ (s : List Bool), s.count false = 0 → s = List.replicate s.length true
  | [], _ => rfl
  | b :: s, h => by
    simp only [List.count_cons] at h
    have := all_of_count s (by omega)
    cases b
    · simp at h
    · simp only [List.length_cons, List.replicate_succ]; rw [← this]

theorem wpAnyN_mid (idx dsts : List Nat) (T : Nat → Prop) (J : List Bool → World → Own → Prop) (R : Nat → Value → World → Own → Prop) {fuel : Nat} {listed : Array Bool} {a : Act} {w : World} {o : Own}
    (hok : midOk md ops listed idx dsts = true)
    (hR : ∀ k u w o w' o', R k u w o → Step T w o w' o' → R k u w' o')
    (us0 : List Value) (hus0 : us0.length = idx.length) (ha : Act.puts a dsts us0 = a)
    (h0 : J (List.replicate idx.length false) w o)
    (hstep : ∀ (k i : Nat) (op : Oper), idx[k]? = some i → ops[i]? = some op → ∀ (s : List Bool) (us : List Value) (w : World) (o : Own), s.length = idx.length → us.length = idx.length → s[k]? = some false →
      (∀ (j i' : Nat), idx[j]? = some i' → depOn md ops i i' = true → s[j]? = some true) → J s w o → (∀ j : Nat, s[j]? = some true → R j (us.getD j undef) w o) →
      wpList P ops (Exit.then (fun a' w' => ∃ v o', a' = (Act.puts a dsts us).put op.dst v ∧ Step T w o w' o' ∧ J (s.set k true) w' o' ∧ R k v w' o' ∧ (need i = true → S w')) Q) [op] (Act.puts a dsts us) w)
    (hend : ∀ (us : List Value) (w : World) (o : Own), us.length = idx.length → J (List.replicate idx.length true) w o → (∀ j : Nat, j < idx.length → R j (us.getD j undef) w o) →
      wpAnyN P md ops Q S need fuel (listedOf listed idx (List.replicate idx.length true)) (Act.puts a dsts us) w) :
    wpAnyN P md ops Q S need (fuel + idx.length) listed a w := by
  simp only [midOk, Bool.and_eq_true, beq_iff_eq, decide_eq_true_eq] at hok
  obtain ⟨⟨⟨⟨⟨hl, hni⟩, hnd⟩, hfr⟩, hdst⟩, hsub⟩ := hok
  have key : ∀ (c : Nat) (s : List Bool) (us : List Value) (w : World) (o : Own), s.count false = c → s.length = idx.length → us.length = idx.length → J s w o → (∀ j : Nat, s[j]? = some true → R j (us.getD j undef) w o) →
      wpAnyN P md ops Q S need (fuel + c) (listedOf listed idx s) (Act.puts a dsts us) w := by
    intro c
    induction c with
    | zero =>
      intro s us w o hc hs hu hJ hr
      have := all_of_count s hc
      rw [hs] at this
      subst this
      refine hend us w o hu hJ fun j hj => hr j ?_
      rw [List.getElem?_replicate, if_pos hj]
    | succ c ih =>
      intro s us w o hc hs hu hJ hr
      have hsm := List.all_eq_true.1 hsub s (mem_boolLists _ s hs)
      have hnall : (s.all fun b => b) = false := by
        cases hq : (s.all fun b => b)
        · rfl
        · exfalso
          have : ∀ b ∈ s, b = true := by simpa using hq
          have h2 : s.count false = 0 := List.count_eq_zero.2 fun hm => by have := this _ hm; cases this
          omega
      rw [hnall] at hsm
      simp only [Bool.false_or, Bool.and_eq_true, Bool.not_eq_true', List.isEmpty_eq_false_iff] at hsm
      rw [← Nat.add_assoc]
      refine ⟨fun h => absurd h hsm.1, fun i hi => ?_⟩
      have hc1 := List.all_eq_true.1 hsm.2 i hi
      have hmem : i ∈ idx := by simpa using hc1
      obtain ⟨k, hk⟩ := List.mem_iff_getElem?.1 hmem
      have hkl : k < idx.length := (List.getElem?_eq_some_iff.1 hk).1
      obtain ⟨hun, op, hop, hall⟩ := mem_ready.1 hi
      have hsk : s[k]? = some false := by
        cases hb : s[k]? with
        | none => rw [List.getElem?_eq_none_iff] at hb; omega
        | some b =>
          cases b
          · rfl
          · have := listedOf_true idx s listed k i hk hb
            rw [hun] at this; cases this
      have hdk : ∃ d, dsts[k]? = some d ∧ op.dst = some d := by
        obtain ⟨d, hd⟩ : ∃ d, dsts[k]? = some d := ⟨_, List.getElem?_eq_getElem (by omega)⟩
        refine ⟨d, hd, ?_⟩
        have : (i, d) ∈ idx.zip dsts := List.mem_iff_getElem?.2 ⟨k, by rw [List.getElem?_zip_eq_some]; exact ⟨hk, hd⟩⟩
        have := List.all_eq_true.1 hdst _ this
        simp only [hop, beq_iff_eq] at this
        exact this
      obtain ⟨d, hd, hopd⟩ := hdk
      have hdep : ∀ (j i' : Nat), idx[j]? = some i' → depOn md ops i i' = true → s[j]? = some true := fun j i' hj hdp => by
        simp only [depOn, hop] at hdp
        obtain ⟨e, he, hb⟩ := Array.any_eq_true'.1 hdp
        simp only [Bool.and_eq_true, beq_iff_eq] at hb
        have h1 := hall e he hb.1
        rw [hb.2] at h1
        have hjl : j < idx.length := (List.getElem?_eq_some_iff.1 hj).1
        cases hb2 : s[j]? with
        | none => rw [List.getElem?_eq_none_iff] at hb2; omega
        | some b =>
          cases b
          · have hf := List.all_eq_true.1 hfr i' (List.mem_of_getElem? hj)
            have := listedOf_false idx s listed j i' hni hj hb2 (by simpa using hf)
            rw [h1] at this; cases this
          · rfl
      refine wpOp_mono ?_ (wpOp_one hop (hstep k i op hk hop s us w o hs hu hsk hdep hJ hr))
      rintro a' w' ⟨v, o', rfl, hst, hJ', hRk, hS⟩
      refine ⟨hS, ?_⟩
      rw [hopd, ← puts_set dsts us a k d v hnd hd (by omega), ← listedOf_set idx s listed k i hk (by omega) hsk]
      refine ih (s.set k true) (us.set k v) w' o' (by have := count_set s k hsk; omega) (by simpa using hs) (by simpa using hu) hJ' fun j hj => ?_
      by_cases hjk : k = j
      · subst hjk
        rw [List.getD_eq_getElem?_getD, List.getElem?_set_self (by omega)]
        exact hRk
      · rw [List.getElem?_set_ne hjk] at hj
        rw [List.getD_eq_getElem?_getD, List.getElem?_set_ne hjk, ← List.getD_eq_getElem?_getD]
        exact hR j _ _ _ _ _ (hr j hj) hst
  have h1 := key idx.length (List.replicate idx.length false) us0 w o (by simp) (by simp) hus0 h0 (fun j hj => by rw [List.getElem?_replicate] at hj; split at hj <;> cases hj)
  have h2 : ∀ (is : List Nat) (l : Array Bool) (n : Nat), listedOf l is (List.replicate n false) = l := by
    intro is
    induction is with
    | nil => intros; rfl
    | cons i is ih =>
      intro l n
      cases n with
      | zero => rfl
      | succ n => simp only [List.replicate_succ, listedOf, Bool.false_eq_true, if_false]; exact ih l n
  rw [h2, ha] at h1
  exact h1

/-- F of each pair of a list, told one by one. -/
def stepsOf : List (Nat × Oper) → Nat → (Nat → Nat → Oper → Prop) → Prop
  | [], _, _ => True
  | (i, op) :: r, k, F => F k i op ∧ stepsOf r (k + 1) F
theorem stepsOf_at : ∀ (l : List (Nat × Oper)) (k0 : Nat) (F : Nat → Nat → Oper → Prop), stepsOf l k0 F → ∀ (k i : Nat) (op : Oper), l[k]? = some (i, op) → F (k0 + k) i op
  | [], _, _, _, _, _, _, h => by simp at h
  | (j, q) :: r, k0, F, h, 0, i, op, hk => by
    simp only [List.getElem?_cons_zero, Option.some.injEq, Prod.mk.injEq] at hk
    obtain ⟨rfl, rfl⟩ := hk
    exact h.1
  | (j, q) :: r, k0, F, h, k + 1, i, op, hk => by
    have := stepsOf_at r (k0 + 1) F h.2 k i op (by simpa using hk)
    rwa [show k0 + 1 + k = k0 + (k + 1) from by omega] at this

/-- The same, the operations written out (opl), each with its own goal. -/
theorem wpAnyN_midl (idx dsts : List Nat) (opl : List Oper) (T : Nat → Prop) (J : List Bool → World → Own → Prop) (R : Nat → Value → World → Own → Prop) {fuel : Nat} {listed : Array Bool} {a : Act} {w : World} {o : Own}
    (hopl : (idx.map fun i => (ops.toList.drop i).head?) = opl.map some)
    (hok : midOk md ops listed idx dsts = true)
    (hR : ∀ k u w o w' o', R k u w o → Step T w o w' o' → R k u w' o')
    (us0 : List Value) (hus0 : us0.length = idx.length) (ha : Act.puts a dsts us0 = a)
    (h0 : J (List.replicate idx.length false) w o)
    (hstep : stepsOf (idx.zip opl) 0 fun k i op => ∀ (s : List Bool) (us : List Value) (w : World) (o : Own), s.length = idx.length → us.length = idx.length → s[k]? = some false →
      (∀ (j i' : Nat), idx[j]? = some i' → depOn md ops i i' = true → s[j]? = some true) → J s w o → (∀ j : Nat, s[j]? = some true → R j (us.getD j undef) w o) →
      wpList P ops (Exit.then (fun a' w' => ∃ v o', a' = (Act.puts a dsts us).put op.dst v ∧ Step T w o w' o' ∧ J (s.set k true) w' o' ∧ R k v w' o' ∧ (need i = true → S w')) Q) [op] (Act.puts a dsts us) w)
    (hend : ∀ (us : List Value) (w : World) (o : Own), us.length = idx.length → J (List.replicate idx.length true) w o → (∀ j : Nat, j < idx.length → R j (us.getD j undef) w o) →
      wpAnyN P md ops Q S need fuel (listedOf listed idx (List.replicate idx.length true)) (Act.puts a dsts us) w) :
    wpAnyN P md ops Q S need (fuel + idx.length) listed a w := by
  refine wpAnyN_mid idx dsts T J R hok hR us0 hus0 ha h0 (fun k i op hk hop => ?_) hend
  have h1 := congrArg (·[k]?) hopl
  simp only [List.getElem?_map, hk, Option.map_some] at h1
  have h2 : (ops.toList.drop i).head? = some op := by rw [List.head?_drop]; simpa using hop
  rw [h2] at h1
  have h3 : opl[k]? = some op := by
    cases hq : opl[k]? with
    | none => rw [hq] at h1; cases h1
    | some q => rw [hq] at h1; simp only [Option.map_some, Option.some.injEq] at h1; rw [h1]
  have h4 := stepsOf_at _ _ _ hstep k i op (by rw [List.getElem?_zip_eq_some]; exact ⟨hk, h3⟩)
  rw [Nat.zero_add] at h4
  exact h4
end
end Go.Proofs.YtfgggkheadfiaaaR
/- Contracts: log.small, bits.ReverseBytes64, slices.Concat of bytes. -/
namespace Go.Proofs.YtfgggkheadfiaaaR
open Go Go.RowKit
attribute [local go_sem ↓] Go.wp_at_zero Go.wp_at_succ

def m3 : BitVec 64 := 71777214294589695#64
def m4 : BitVec 64 := 281470681808895#64
def rev1 (x : BitVec 64) : BitVec 64 := ((x >>> 8) &&& m3) ||| ((x &&& m3) <<< 8)
def rev2 (x : BitVec 64) : BitVec 64 := ((x >>> 16) &&& m4) ||| ((x &&& m4) <<< 16)
def rev4 (x : BitVec 64) : BitVec 64 := (x >>> 32) ||| (x <<< 32)
def rev64 (x : BitVec 64) : BitVec 64 := rev4 (rev2 (rev1 x))
theorem shr_int8 (y : BitVec 64) : (y.toNat : Int) / (256 : Int) = ((y >>> 8).toNat : Int) := by rw [BitVec.toNat_ushiftRight, Nat.shiftRight_eq_div_pow]; simp
theorem shr_int16 (y : BitVec 64) : (y.toNat : Int) / (65536 : Int) = ((y >>> 16).toNat : Int) := by rw [BitVec.toNat_ushiftRight, Nat.shiftRight_eq_div_pow]; simp
theorem shr_int32 (y : BitVec 64) : (y.toNat : Int) / (4294967296 : Int) = ((y >>> 32).toNat : Int) := by rw [BitVec.toNat_ushiftRight, Nat.shiftRight_eq_div_pow]; simp
theorem wrap_shl16 (x : BitVec 64) : IntKind.u64.wrap ((x.toNat : Int) * 65536) = ((x <<< 16).toNat : Int) := by
  rw [BitVec.toNat_shiftLeft, Nat.shiftLeft_eq]
  simp [IntKind.wrap, IntKind.bits, IntKind.signed]
theorem wrap_shl32 (x : BitVec 64) : IntKind.u64.wrap ((x.toNat : Int) * 4294967296) = ((x <<< 32).toNat : Int) := by
  rw [BitVec.toNat_shiftLeft, Nat.shiftLeft_eq]
  simp [IntKind.wrap, IntKind.bits, IntKind.signed]
theorem and_m3 (x : BitVec 64) : bits .and .u64 (x.toNat : Int) 71777214294589695 = ((x &&& m3).toNat : Int) := bits_and x m3
theorem and_m4 (x : BitVec 64) : bits .and .u64 (x.toNat : Int) 281470681808895 = ((x &&& m4).toNat : Int) := bits_and x m4
theorem rev1_int (x : BitVec 64) : bits .or .u64 (bits .and .u64 ((x.toNat : Int) / (256 : Int)) 71777214294589695) (IntKind.u64.wrap (bits .and .u64 (x.toNat : Int) 71777214294589695 * 256)) = ((rev1 x).toNat : Int) := by
  rw [shr_int8, and_m3, and_m3, wrap_shl8, bits_or]; rfl
theorem rev2_int (x : BitVec 64) : bits .or .u64 (bits .and .u64 ((x.toNat : Int) / (65536 : Int)) 281470681808895) (IntKind.u64.wrap (bits .and .u64 (x.toNat : Int) 281470681808895 * 65536)) = ((rev2 x).toNat : Int) := by
  rw [shr_int16, and_m4, and_m4, wrap_shl16, bits_or]; rfl
theorem rev4_int (x : BitVec 64) : bits .or .u64 ((x.toNat : Int) / (4294967296 : Int)) (IntKind.u64.wrap ((x.toNat : Int) * 4294967296)) = ((rev4 x).toNat : Int) := by
  rw [shr_int32, wrap_shl32, bits_or]; rfl
set_option maxRecDepth 100000 in
set_option maxHeartbeats 800000 in
theorem rev64_any (w : World) (x : BitVec 64) : Calls Try.prog 119 #[.int .u64 (x.toNat : Int)] w fun e w' => e = .returned (.int .u64 ((rev64 x).toNat : Int)) ∧ w = w' := by
  go_enter Try.func119, Try.ntmps119
  go_wp2_with fail
  rw [rev1_int, rev2_int, rev4_int]
  go_ret
  exact ⟨rfl, rfl⟩

theorem rev64_bit (x : BitVec 64) : ∀ i : Nat, i < 64 → (rev64 x).getLsbD i = x.getLsbD (8 * (7 - i / 8) + i % 8)
  | 0, _ => by show _ = x.getLsbD 56; simp [rev64, rev4, rev2, rev1, m3, m4]
  | 1, _ => by show _ = x.getLsbD 57; simp [rev64, rev4, rev2, rev1, m3, m4]
  | 2, _ => by show _ = x.getLsbD 58; simp [rev64, rev4, rev2, rev1, m3, m4]
  | 3, _ => by show _ = x.getLsbD 59; simp [rev64, rev4, rev2, rev1, m3, m4]
  | 4, _ => by show _ = x.getLsbD 60; simp [rev64, rev4, rev2, rev1, m3, m4]
  | 5, _ => by show _ = x.getLsbD 61; simp [rev64, rev4, rev2, rev1, m3, m4]
  | 6, _ => by show _ = x.getLsbD 62; simp [rev64, rev4, rev2, rev1, m3, m4]
  | 7, _ => by show _ = x.getLsbD 63; simp [rev64, rev4, rev2, rev1, m3, m4]
  | 8, _ => by show _ = x.getLsbD 48; simp [rev64, rev4, rev2, rev1, m3, m4]
  | 9, _ => by show _ = x.getLsbD 49; simp [rev64, rev4, rev2, rev1, m3, m4]
  | 10, _ => by show _ = x.getLsbD 50; simp [rev64, rev4, rev2, rev1, m3, m4]
  | 11, _ => by show _ = x.getLsbD 51; simp [rev64, rev4, rev2, rev1, m3, m4]
  | 12, _ => by show _ = x.getLsbD 52; simp [rev64, rev4, rev2, rev1, m3, m4]
  | 13, _ => by show _ = x.getLsbD 53; simp [rev64, rev4, rev2, rev1, m3, m4]
  | 14, _ => by show _ = x.getLsbD 54; simp [rev64, rev4, rev2, rev1, m3, m4]
  | 15, _ => by show _ = x.getLsbD 55; simp [rev64, rev4, rev2, rev1, m3, m4]
  | 16, _ => by show _ = x.getLsbD 40; simp [rev64, rev4, rev2, rev1, m3, m4]
  | 17, _ => by show _ = x.getLsbD 41; simp [rev64, rev4, rev2, rev1, m3, m4]
  | 18, _ => by show _ = x.getLsbD 42; simp [rev64, rev4, rev2, rev1, m3, m4]
  | 19, _ => by show _ = x.getLsbD 43; simp [rev64, rev4, rev2, rev1, m3, m4]
  | 20, _ => by show _ = x.getLsbD 44; simp [rev64, rev4, rev2, rev1, m3, m4]
  | 21, _ => by show _ = x.getLsbD 45; simp [rev64, rev4, rev2, rev1, m3, m4]
  | 22, _ => by show _ = x.getLsbD 46; simp [rev64, rev4, rev2, rev1, m3, m4]
  | 23, _ => by show _ = x.getLsbD 47; simp [rev64, rev4, rev2, rev1, m3, m4]
  | 24, _ => by show _ = x.getLsbD 32; simp [rev64, rev4, rev2, rev1, m3, m4]
  | 25, _ => by show _ = x.getLsbD 33; simp [rev64, rev4, rev2, rev1, m3, m4]
  | 26, _ => by show _ = x.getLsbD 34; simp [rev64, rev4, rev2, rev1, m3, m4]
  | 27, _ => by show _ = x.getLsbD 35; simp [rev64, rev4, rev2, rev1, m3, m4]
  | 28, _ => by show _ = x.getLsbD 36; simp [rev64, rev4, rev2, rev1, m3, m4]
  | 29, _ => by show _ = x.getLsbD 37; simp [rev64, rev4, rev2, rev1, m3, m4]
  | 30, _ => by show _ = x.getLsbD 38; simp [rev64, rev4, rev2, rev1, m3, m4]
  | 31, _ => by show _ = x.getLsbD 39; simp [rev64, rev4, rev2, rev1, m3, m4]
  | 32, _ => by show _ = x.getLsbD 24; simp [rev64, rev4, rev2, rev1, m3, m4]
  | 33, _ => by show _ = x.getLsbD 25; simp [rev64, rev4, rev2, rev1, m3, m4]
  | 34, _ => by show _ = x.getLsbD 26; simp [rev64, rev4, rev2, rev1, m3, m4]
  | 35, _ => by show _ = x.getLsbD 27; simp [rev64, rev4, rev2, rev1, m3, m4]
  | 36, _ => by show _ = x.getLsbD 28; simp [rev64, rev4, rev2, rev1, m3, m4]
  | 37, _ => by show _ = x.getLsbD 29; simp [rev64, rev4, rev2, rev1, m3, m4]
  | 38, _ => by show _ = x.getLsbD 30; simp [rev64, rev4, rev2, rev1, m3, m4]
  | 39, _ => by show _ = x.getLsbD 31; simp [rev64, rev4, rev2, rev1, m3, m4]
  | 40, _ => by show _ = x.getLsbD 16; simp [rev64, rev4, rev2, rev1, m3, m4]
  | 41, _ => by show _ = x.getLsbD 17; simp [rev64, rev4, rev2, rev1, m3, m4]
  | 42, _ => by show _ = x.getLsbD 18; simp [rev64, rev4, rev2, rev1, m3, m4]
  | 43, _ => by show _ = x.getLsbD 19; simp [rev64, rev4, rev2, rev1, m3, m4]
  | 44, _ => by show _ = x.getLsbD 20; simp [rev64, rev4, rev2, rev1, m3, m4]
  | 45, _ => by show _ = x.getLsbD 21; simp [rev64, rev4, rev2, rev1, m3, m4]
  | 46, _ => by show _ = x.getLsbD 22; simp [rev64, rev4, rev2, rev1, m3, m4]
  | 47, _ => by show _ = x.getLsbD 23; simp [rev64, rev4, rev2, rev1, m3, m4]
  | 48, _ => by show _ = x.getLsbD 8; simp [rev64, rev4, rev2, rev1, m3, m4]
  | 49, _ => by show _ = x.getLsbD 9; simp [rev64, rev4, rev2, rev1, m3, m4]
  | 50, _ => by show _ = x.getLsbD 10; simp [rev64, rev4, rev2, rev1, m3, m4]
  | 51, _ => by show _ = x.getLsbD 11; simp [rev64, rev4, rev2, rev1, m3, m4]
  | 52, _ => by show _ = x.getLsbD 12; simp [rev64, rev4, rev2, rev1, m3, m4]
  | 53, _ => by show _ = x.getLsbD 13; simp [rev64, rev4, rev2, rev1, m3, m4]
  | 54, _ => by show _ = x.getLsbD 14; simp [rev64, rev4, rev2, rev1, m3, m4]
  | 55, _ => by show _ = x.getLsbD 15; simp [rev64, rev4, rev2, rev1, m3, m4]
  | 56, _ => by show _ = x.getLsbD 0; simp [rev64, rev4, rev2, rev1, m3, m4]
  | 57, _ => by show _ = x.getLsbD 1; simp [rev64, rev4, rev2, rev1, m3, m4]
  | 58, _ => by show _ = x.getLsbD 2; simp [rev64, rev4, rev2, rev1, m3, m4]
  | 59, _ => by show _ = x.getLsbD 3; simp [rev64, rev4, rev2, rev1, m3, m4]
  | 60, _ => by show _ = x.getLsbD 4; simp [rev64, rev4, rev2, rev1, m3, m4]
  | 61, _ => by show _ = x.getLsbD 5; simp [rev64, rev4, rev2, rev1, m3, m4]
  | 62, _ => by show _ = x.getLsbD 6; simp [rev64, rev4, rev2, rev1, m3, m4]
  | 63, _ => by show _ = x.getLsbD 7; simp [rev64, rev4, rev2, rev1, m3, m4]
  | n + 64, h => by omega
theorem beB_bit (x : BitVec 64) (k j : Nat) (hj : j < 8) : (beB x k).toNat.testBit j = x.getLsbD (8 * k + j) := by
  rw [beB, UInt8.toNat_ofNat']
  rw [Nat.testBit_mod_two_pow]
  simp only [hj, decide_true, Bool.true_and]
  rw [BitVec.toNat_ushiftRight, Nat.testBit_shiftRight]
  rfl
theorem beB_rev (x : BitVec 64) (k : Nat) (hk : k < 8) : beB (rev64 x) k = beB x (7 - k) := by
  apply UInt8.toNat_inj.1
  apply Nat.eq_of_testBit_eq
  intro j
  by_cases hj : j < 8
  · rw [beB_bit _ _ _ hj, beB_bit _ _ _ hj, rev64_bit _ _ (by omega)]
    congr 1
    omega
  · have h1 : (beB (rev64 x) k).toNat < 2 ^ j := Nat.lt_of_lt_of_le (UInt8.toNat_lt _) (Nat.pow_le_pow_right (by omega) (show 8 ≤ j by omega))
    have h2 : (beB x (7 - k)).toNat < 2 ^ j := Nat.lt_of_lt_of_le (UInt8.toNat_lt _) (Nat.pow_le_pow_right (by omega) (show 8 ≤ j by omega))
    rw [Nat.testBit_lt_two_pow h1, Nat.testBit_lt_two_pow h2]
theorem be_rev (x : BitVec 64) : be 8 (rev64 x) = (be 8 x).reverse := by
  have h : ∀ y : BitVec 64, be 8 y = [beB y 7, beB y 6, beB y 5, beB y 4, beB y 3, beB y 2, beB y 1, beB y 0] := fun y => rfl
  rw [h, h, beB_rev x 7 (by omega), beB_rev x 6 (by omega), beB_rev x 5 (by omega), beB_rev x 4 (by omega), beB_rev x 3 (by omega), beB_rev x 2 (by omega), beB_rev x 1 (by omega), beB_rev x 0 (by omega)]
  rfl
end Go.Proofs.YtfgggkheadfiaaaR
/- Contracts: log.small, slices.Grow and slices.Concat of bytes. -/
namespace Go.Proofs.YtfgggkheadfiaaaR
open Go Go.RowKit
attribute [local go_sem ↓] Go.wp_at_zero Go.wp_at_succ

/-- A part of bytes. -/
theorem Bytes.part {w : World} {o : Own} {b off n c : Nat} {l : List UInt8} (h : Bytes w o (.slice (some ⟨b, off, none⟩) n c) l) (lo hi : Nat) (h1 : lo ≤ hi) (h2 : hi ≤ l.length) :
    Bytes w o (.slice (some ⟨b, off + lo, none⟩) (hi - lo) (c - lo)) ((l.drop lo).take (hi - lo)) := by
  have hlen : ((l.drop lo).take (hi - lo)).length = hi - lo := by simp; omega
  rcases h.cases with ⟨⟨a, c', hv⟩, rfl⟩ | ⟨b', off', cap, hv, hl, hm, ho, hb, hr⟩
  · simp only [Value.slice.injEq] at hv
    simp only [List.length_nil, Nat.le_zero] at h2
    subst h2
    exact .inl ⟨⟨some ⟨b, off + lo, none⟩, c - lo, by rw [Nat.zero_sub]⟩, by simp, by simp⟩
  · simp only [Value.slice.injEq, Option.some.injEq, Addr.mk.injEq] at hv
    obtain ⟨⟨rfl, rfl, _⟩, rfl, rfl⟩ := hv
    refine .inr ⟨b, off + lo, c - lo, by rw [hlen], by rw [hlen]; omega, by omega, ho, hb, ?_⟩
    rw [← bvs_take, ← bvs_drop]
    exact range_part hr lo (hi - lo)

set_option maxRecDepth 100000 in
set_option maxHeartbeats 800000 in
theorem growB_any (n : Nat) (hn : n ≤ 1000000) (w : World) : Calls Try.prog 140 #[.slice none 0 0, .int .i64 (n : Int)] w fun e w' => ∃ v, e = .returned v ∧ w.grownBy w' none ∧ w'.ownsRow w.heap.size 5 1 v 0 (bvs []) := by
  by_cases h0 : n = 0
  · subst h0
    go_enter Try.func140, Try.ntmps140
    go_wp2_with fail
    go_ret
    exact ⟨_, rfl, ⟨rfl, rfl, rfl, Nat.le_refl _, fun _ _ _ => rfl⟩, World.ownsRow_nil _ _ _ _⟩
  · obtain ⟨i, z, hq, hz, e2, e3, e4⟩ := info_of inf5
    have hold : (Builtin.firstCells i.size 0 (.slice none 0 0)).run Try.prog w.drew = .ok ([] : List Value).toArray w.drew := run_firstCells_none w.drew i.size 0 0 0
    have hr := Lib.run_append_grow_zeros (P := Try.prog) w 28 3 28 5 i z .i64 .i64 Try.underlying28 Try.underlying3 hq hz none 0 0 [] hold n (by omega) (by omega) (by omega) (by omega) (by rw [e3]; omega)
      (by rw [e3]; rw [nextslicecap_zero (by omega)]; omega)
    rw [Nat.zero_add] at hr
    have hG := grownCap_ge w n 0 5
    have hG2 := grownCap_le_maxLen w n 0 5 (by simp only [maxLen]; omega)
    have hcur : (([] : List Value).toArray ++ Builtin.zeroCells z.cells n ++ Builtin.zeroCells z.cells (grownCap w n 0 5 - n)).size = grownCap w n 0 5 * 1 := by
      have : z.cells.size = 1 := by rw [e4]; rfl
      simp [Builtin.zeroCells, this]; omega
    have hown := World.ownsRow_made (e := 5) (size := 1) (base := w.heap.size) w.drew _ _ (Nat.le_refl _) hG2 hcur
    have hgr := World.grownBy_alloc w.drew (.cells (([] : List Value).toArray ++ Builtin.zeroCells z.cells n ++ Builtin.zeroCells z.cells (grownCap w n 0 5 - n)) 5) none
    generalize hGe : grownCap w n 0 5 = G at *
    generalize hW : w.drew.alloc (.cells (([] : List Value).toArray ++ Builtin.zeroCells z.cells n ++ Builtin.zeroCells z.cells (G - n)) 5) = W at *
    have hrunH := hidden hr
    have hG3 : (G : Int) ≤ 9223372036854775807 := by simp only [maxLen] at hG2; omega
    have hpos : 0 < (n : Int) := by omega
    clear hr hold hcur hGe hW hq hz e2 e3 e4 hG2
    go_enter Try.func140, Try.ntmps140
    go_wp2_with ((with_reducible apply lit_append); exact hrunH.out; simp only [Act.put, List.setIfInBounds_toArray, List.set_cons_zero, List.set_cons_succ])
    go_ret
    exact ⟨_, rfl, ⟨hgr.os, hgr.tape, hgr.output, hgr.size, hgr.block⟩, hown⟩

theorem run_append_none {P : Program} (W : World) (t ty e : TypeId) (size : Nat) (hu : P.underlying t = some (.slice e)) (hs : (P.info? e).map (·.size) = some size) (a a' : Option Addr) (n c c' : Nat) (hn : n ≤ c) (hc : (n : Int) ≤ 9223372036854775807) :
    (Builtin.append_ #[t, t] ty #[.slice a n c, .slice a' 0 c']).run P W = .ok (.slice a n c) W := by
  cases hi : P.info? e with
  | none => simp [hi] at hs
  | some i =>
    have h63 : ¬ (9223372036854775807 < (n : Int)) := by omega
    have hf : (Builtin.firstCells i.size 0 (.slice a' 0 c')).run P W = .ok #[] W := by
      cases a' with
      | none => exact run_firstCells_none W i.size 0 0 c'
      | some x => exact run_firstCells_some W i.size 0 x 0 c' [] (by simp) (fun j v hj => by simp at hj)
    cases a <;> simp [Builtin.append_, run_underlying hu, sizeOf, typeInfo, hi, Builtin.lenOf, hn, hf, storeCells]

/-- Values that each read as the bytes told. -/
def RowsB (w : World) (o : Own) (vs : List Value) (ls : List (List UInt8)) : Prop := vs.length = ls.length ∧ ∀ (i : Nat) v l, vs[i]? = some v → ls[i]? = some l → Bytes w o v l
theorem RowsB.step {T : Nat → Prop} {w w' : World} {o o' : Own} {vs : List Value} {ls : List (List UInt8)} (h : RowsB w o vs ls) (s : Step T w o w' o') (hT : ¬ T 0) : RowsB w' o' vs ls :=
  ⟨h.1, fun i v l hv hl => (h.2 i v l hv hl).step s hT⟩
theorem Slc.cell {w : World} {o : Own} {a : Option Addr} {n c : Nat} {cs : List Value} (h : Slc w o (.slice a n c) n cs) (i : Nat) {x : Value} (hx : cs[i]? = some x) : ∃ b off, a = some ⟨b, off, none⟩ ∧ w.cell? ⟨b, off + i, none⟩ = some x ∧ b < w.heap.size ∧ (o b).1 = 0 := by
  rcases h with ⟨_, _, rfl⟩ | ⟨b, off, cap, hv, hl, hm, ho, hb, hr⟩
  · simp at hx
  · simp only [Value.slice.injEq] at hv
    exact ⟨b, off, hv.1, hr i _ hx, hb, ho⟩
set_option maxRecDepth 100000 in
set_option maxHeartbeats 1600000 in
theorem concat_any {w : World} {o : Own} {v : Value} {vs : List Value} {ls : List (List UInt8)} (hv : Slc w o v vs.length vs) (hr : RowsB w o vs ls) (htot : ls.flatten.length ≤ 1000000) (hmany : vs.length ≤ 1000000) :
    Calls Try.prog 117 #[v] w (Ret Nobody w o fun v w' o' => NewB w w' o' v ls.flatten) := by
  obtain ⟨a, c, rfl⟩ := slc_form hv
  have hln : ∀ k, (ls.take k).flatten.length ≤ 1000000 := fun k => by
    have : (ls.take k).flatten.length ≤ ls.flatten.length := by
      conv => rhs; rw [← List.take_append_drop k ls, List.flatten_append, List.length_append]
      omega
    omega
  have hsn : ∀ k l, ls[k]? = some l → (ls.take (k + 1)).flatten = (ls.take k).flatten ++ l := fun k l hl => by
    rw [List.take_add_one, hl]; simp
  have hl0 := hr.1
  have hkl : ∀ k, k < vs.length → ∃ x l, vs[k]? = some x ∧ ls[k]? = some l := fun k hk => ⟨_, _, List.getElem?_eq_getElem hk, List.getElem?_eq_getElem (by omega)⟩
  have hall : ls.take vs.length = ls := List.take_of_length_le (by omega)
  have hallH := hidden hall
  have hrH := hidden hr
  clear hall hl0 hr
  generalize hmm : vs.length = m at *
  clear hmm
  obtain ⟨tl, htl⟩ : ∃ tl : Nat → Nat, ∀ k, tl k = (ls.take k).flatten.length := ⟨_, fun _ => rfl⟩
  have htlH := hidden htl
  clear htl
  go_enter Try.func117, Try.ntmps117
  go_wp2_with fail
  go_loop [3, 11] (fun n i => ∃ k : Nat, k ≤ m ∧ i = .int .i64 k ∧ n = .int .i64 (tl k : Int)) (fun _ i => m - (intOf i).toNat)
  case atStart => exact ⟨0, Nat.zero_le _, rfl, by rw [htlH.out]; rfl⟩
  case round =>
    obtain ⟨k, hk, rfl, rfl⟩ := hrel
    by_cases hlt : k < m
    · obtain ⟨x, l, hx, hl⟩ := hkl k hlt
      obtain ⟨b, off, rfl, hc, hbl, hbo⟩ := hv.cell k hx
      obtain ⟨xa, xc, rfl⟩ := slc_form (hrH.out.2 k x l hx hl)
      have hlen : (tl (k + 1) : Int) = (tl k : Int) + (l.length : Int) := by rw [htlH.out, htlH.out, hsn k l hl, List.length_append]; omega
      have hb1 : tl (k + 1) ≤ 1000000 := by rw [htlH.out]; exact hln (k + 1)
      have hb2 : tl k ≤ 1000000 := by rw [htlH.out]; exact hln k
      have hlenH := hidden hlen
      have hb3 : (tl k : Int) + (l.length : Int) ≤ 1000000 := by omega
      clear hlen hb1 hx hl hv hrH hsn hln htot hkl hallH
      generalize tl k = N at *
      generalize l.length = M at *
      go_wp2_with fail
      go_round
      case rel => exact ⟨k + 1, hlt, by go_num, by rw [hlenH.out]⟩
      case measure => simp [intOf]; omega
    · obtain rfl : m = k := by omega
      have hg := growB_any (tl m) (by rw [htlH.out, hallH.out]; exact htot) w
      go_wp2_with fail
      refine hg.mono ?_; rintro e w1 ⟨v1, rfl, hg1, hown1⟩
      have hbel : Below w.heap.size w w1 := ⟨hg1.os, hg1.tape, hg1.output, hg1.size, fun k hk => hg1.block k hk (by simp)⟩
      clear hg
      obtain ⟨a1, c1, rfl⟩ := own_form hown1
      go_wp2_with fail
      go_loopw [6, 27] (fun out i wr => ∃ k : Nat, k ≤ m ∧ i = .int .i64 k ∧ wr.ownsRow w.heap.size 5 1 out (ls.take k).flatten.length (bvs (ls.take k).flatten) ∧ Below w.heap.size w wr) (fun _ i _ => m - (intOf i).toNat)
      case atStart => exact ⟨0, Nat.zero_le _, rfl, hown1, hbel⟩
      case round =>
        clear hown1 hbel hg1
        obtain ⟨k, hk, rfl, hown, hbel⟩ := hrel
        by_cases hlt : k < m
        · obtain ⟨x, l, hx, hl⟩ := hkl k hlt
          obtain ⟨b, off, rfl, hc, hbl, hbo⟩ := hv.cell k hx
          have hbx := hrH.out.2 k x l hx hl
          have hc2 : wr.cell? ⟨b, off + k, none⟩ = some x := by rw [World.cell?_of_block (a := ⟨b, off + k, none⟩) (hbel.block b hbl)]; exact hc
          have hs1 := hsn k l hl
          have hb1 := hln (k + 1)
          rw [hs1, List.length_append] at hb1
          have hsize := hbel.size
          obtain ⟨oa, oc, rfl⟩ := own_form hown
          have hcap : (ls.take k).flatten.length ≤ oc ∧ oc ≤ maxLen := by
            rcases hown.2 with ⟨h1, h2⟩ | ⟨g, cap, cur, h1, _, _, h2, h3, _⟩
            · simp only [Value.slice.injEq] at h1; omega
            · simp only [Value.slice.injEq] at h1; omega
          rcases hbx.cases with ⟨⟨xa, xc, rfl⟩, rfl⟩ | ⟨xb, xoff, xcap, rfl, hxl, hxm, hxo, hxb, hxr⟩
          · rw [List.append_nil] at hs1
            have hap := run_append_none (P := Try.prog) wr 28 28 5 1 Try.underlying28 (by kernel_rfl) oa xa (ls.take k).flatten.length oc xc hcap.1 (by simp only [List.length_nil] at hb1; omega)
            have hapH := hidden hap
            have hs1H := hidden hs1
            have hownH := hidden hown
            clear hap hs1 hown hx hl hv hrH hsn hln htot hkl hallH hb1 hcap hbx
            go_wp2_with ((with_reducible apply lit_append); exact hapH.out; simp only [Act.put, List.setIfInBounds_toArray, List.set_cons_zero, List.set_cons_succ])
            go_roundw
            case rel => exact ⟨k + 1, hlt, by go_num, by rw [hs1H.out]; exact hownH.out, hbel⟩
            case measure => simp [intOf]; omega
          · by_cases hm0 : l.length = 0
            · have hl00 : l = [] := List.eq_nil_of_length_eq_zero hm0
              subst hl00
              rw [List.append_nil] at hs1
              have hap := run_append_none (P := Try.prog) wr 28 28 5 1 Try.underlying28 (by kernel_rfl) oa (some ⟨xb, xoff, none⟩) (ls.take k).flatten.length oc xcap hcap.1 (by simp only [List.length_nil] at hb1; omega)
              have hapH := hidden hap
              have hs1H := hidden hs1
              have hownH := hidden hown
              clear hap hs1 hown hx hl hv hrH hsn hln htot hkl hallH hb1 hcap hbx
              go_wp2_with ((with_reducible apply lit_append); exact hapH.out; simp only [Act.put, List.setIfInBounds_toArray, List.set_cons_zero, List.set_cons_succ])
              go_roundw
              case rel => exact ⟨k + 1, hlt, by go_num, by rw [hs1H.out]; exact hownH.out, hbel⟩
              case measure => simp [intOf]; omega
            · have hxr2 : wr.rangeAt xb xoff (bvs l) := range_same hxr (hbel.block xb hxb)
              obtain ⟨g, cap, w3, hrun, hown3, hgrow, hat, hlt3⟩ := run_append_bytes wr (base := w.heap.size) hsize _ (ls.take k).flatten.length _ hown xb xoff l.length xcap l rfl hxr2 (by omega) (by omega)
              have hb3 : Below w.heap.size w w3 := hbel.grown hgrow hbel.size (fun k hk => (hown.lt k hk).1)
              rw [← List.length_append, ← hs1] at hown3
              have hrunH := hidden hrun
              have hownH := hidden hown3
              have hs1H := hidden hs1
              have hlsH := hidden hb1
              clear hrun hown3 hown hs1 hx hl hv hrH hsn hln htot hkl hallH hb1 hcap hbx hxr hxr2 hat
              go_wp2_with ((with_reducible apply lit_append); exact hrunH.out; simp only [Act.put, List.setIfInBounds_toArray, List.set_cons_zero, List.set_cons_succ])
              go_roundw
              case rel => exact ⟨k + 1, hlt, by go_num, by have h := hownH.out; rw [hs1H.out, List.length_append] at h ⊢; exact h, hb3⟩
              case measure => simp [intOf]; omega
        · obtain rfl : m = k := by omega
          rw [hallH.out] at hown
          obtain ⟨oa, oc, rfl⟩ := own_form hown
          go_wp2_with fail
          go_ret
          exact ⟨_, (fun k => if k < w.heap.size then o k else (0, 0)), rfl, ⟨hbel.os, hbel.tape, hbel.output, hbel.size, fun k hk => if_pos hk, fun k hk _ => hbel.block k hk⟩, hown, fun k hk => if_neg (by have := (hown.lt k hk).1; omega)⟩

theorem be_drop (n k : Nat) (x : BitVec 64) (hk : k ≤ n) : (be n x).drop (n - k) = be k x := by
  induction n with
  | zero => have : k = 0 := by omega
            subst this; rfl
  | succ n ih =>
    by_cases h : k = n + 1
    · subst h; simp
    · rw [show n + 1 - k = (n - k) + 1 from by omega, be_succ, List.drop_succ_cons]
      exact ih (by omega)
set_option maxRecDepth 100000 in
set_option maxHeartbeats 800000 in
theorem small_any (n k : Nat) (hn : n ≤ 1000000) (hk : k ≤ 8) (hk1 : 1 ≤ k) (w : World) (o : Own) : Calls Try.prog 118 #[.int .i64 (n : Int), .int .i64 (k : Int)] w (Ret Nobody w o fun v w' o' => Bytes w' o' v (be k (BitVec.ofNat 64 n))) := by
  have hx : ((BitVec.ofNat 64 n).toNat : Int) = (n : Int) := by simp; omega
  have hc := wuint_any (Bytes.nil w o) (by simp) (BitVec.ofNat 64 n)
  rw [hx] at hc
  clear hx
  go_enter Try.func118, Try.ntmps118
  go_wp2_with fail
  refine hc.mono ?_; rintro e w1 ⟨v1, o1, rfl, hs, hn1⟩
  have hb := hn1.bytes
  rw [List.nil_append] at hb
  rcases hb.cases with ⟨_, h0⟩ | ⟨b, off, cap, rfl, hl, hm, ho, hbl, hr⟩
  · have := length_be 8 (BitVec.ofNat 64 n); rw [h0] at this; simp at this
  rw [length_be] at hb hl ⊢
  have hp := hb.part (8 - k) 8 (by omega) (by rw [length_be]; omega)
  rw [be_drop 8 k _ hk, List.take_of_length_le (by rw [length_be]; omega)] at hp
  have hpH := hidden hp
  clear hb hp hr hn1 hc
  have hl' : (8 : Int) ≤ (cap : Int) := by omega
  have hm' : (cap : Int) ≤ 9223372036854775807 := by simp only [maxLen] at hm; omega
  have hne : ¬ (cap = 8 - k) := by omega
  go_wp2_with fail
  go_ret
  exact ⟨_, o1, rfl, hs, hpH.out⟩
end Go.Proofs.YtfgggkheadfiaaaR
/- Contract: the page of a leaf. -/
namespace Go.Proofs.YtfgggkheadfiaaaR
open Go Go.RowKit
attribute [local go_sem ↓] Go.wp_at_zero Go.wp_at_succ

theorem len4 {α : Type} {l : List α} (h : l.length = 4) : ∃ a b c d, l = [a, b, c, d] := by
  match l, h with
  | [a, b, c, d], _ => exact ⟨a, b, c, d, rfl⟩
theorem bytes_new (w : World) (o : Own) (l : List UInt8) (hl : l.length ≤ 1000000) : Bytes (w.alloc (.cells (bvs l).toArray 5)) (tagAt o w.heap.size (0, 0)) (.slice (some ⟨w.heap.size, 0, none⟩) l.length l.length) l :=
  .inr ⟨w.heap.size, 0, l.length, rfl, by simp, by simp only [maxLen]; omega, by rw [tagAt_same], by simp, range_whole (heap_alloc_new w _)⟩
theorem slc_new (w : World) (o : Own) (e : TypeId) (vs : List Value) (hl : vs.length ≤ 1000000) : Slc (w.alloc (.cells vs.toArray e)) (tagAt o w.heap.size (0, 0)) (.slice (some ⟨w.heap.size, 0, none⟩) vs.length vs.length) vs.length vs :=
  .inr ⟨w.heap.size, 0, vs.length, rfl, by simp, by simp only [maxLen]; omega, by rw [tagAt_same], by simp, range_whole (heap_alloc_new w _)⟩

theorem RowsB.nil (w : World) (o : Own) : RowsB w o [] [] := ⟨rfl, fun i v l hv _ => by simp at hv⟩
theorem RowsB.cons {w : World} {o : Own} {v : Value} {l : List UInt8} {vs : List Value} {ls : List (List UInt8)} (h : Bytes w o v l) (r : RowsB w o vs ls) : RowsB w o (v :: vs) (l :: ls) :=
  ⟨by simp [r.1], fun i v' l' hv hl => by
    cases i with
    | zero => simp only [List.getElem?_cons_zero, Option.some.injEq] at hv hl; subst hv; subst hl; exact h
    | succ i => exact r.2 i v' l' (by simpa using hv) (by simpa using hl)⟩
set_option maxRecDepth 100000 in
set_option maxHeartbeats 3200000 in
theorem page_any {w : World} {o : Own} {bv : Value} (x : LeafM) (hb : Bytes w o bv x.bytes) (hl : x.bytes.length ≤ 480) (ha : x.at' ≤ 1000000) (hf : x.of' ≤ 1000000) :
    Calls Try.prog 87 #[.agg #[.int .u64 (x.stamp.toNat : Int), .int .i64 (x.at' : Int), .int .i64 (x.of' : Int), bv]] w (Ret Nobody w o fun v w' o' => NewB w w' o' v x.page) := by
  have hs0 : Step Nobody w o (w.alloc (.cells #[.int .u64 (x.stamp.toNat : Int), .int .i64 (x.at' : Int), .int .i64 (x.of' : Int), bv] 139)) (tagAt o w.heap.size (0, 0)) := (Step.refl _ w o).alloc _ _
  have hbx : (w.alloc (.cells #[.int .u64 (x.stamp.toNat : Int), .int .i64 (x.at' : Int), .int .i64 (x.of' : Int), bv] 139)).heap[w.heap.size]? = some (.cells #[.int .u64 (x.stamp.toNat : Int), .int .i64 (x.at' : Int), .int .i64 (x.of' : Int), bv] 139 (0, 0)) := heap_alloc_new w _
  have hb0 := hb.step hs0 (fun h => h)
  obtain ⟨ba, bc, rfl⟩ := slc_form hb
  have hlt := lt_of_block hbx
  obtain ⟨st, at', of', bs⟩ := x
  simp only at hl ha hf hs0 hbx hb0 hlt ⊢
  clear hb
  generalize hW0 : w.alloc (.cells #[.int .u64 (st.toNat : Int), .int .i64 (at' : Int), .int .i64 (of' : Int), .slice ba bs.length bc] 139) = W0 at *
  have c0 := cell_of_block hbx 0
  have c1 := cell_of_block hbx 1
  have c2 := cell_of_block hbx 2
  have c3 := cell_of_block hbx 3
  simp only [List.getElem?_cons_succ, List.getElem?_cons_zero] at c0 c1 c2 c3
  have hWs : W0.heap.size = w.heap.size + 1 := by rw [← hW0]; simp
  have hu := wuint_any (Bytes.nil W0 (tagAt o w.heap.size (0, 0))) (by simp) st
  have hW0H := hidden hW0
  clear hW0
  go_enter Try.func87, Try.ntmps87
  go_wp2_with fail
  rw [hW0H.out]
  refine hu.mono ?_; rintro e W1 ⟨v1, o1, rfl, hs1, hn1⟩
  have hst := hn1.bytes
  rw [List.nil_append] at hst
  have hst1 := hs0.trans hs1
  have e1 := hs1.block w.heap.size hlt (fun h => h)
  have d1 : W1.cell? ⟨w.heap.size, 1, none⟩ = _ := (World.cell?_of_block (a := ⟨w.heap.size, 1, none⟩) e1).trans c1
  have d2 : W1.cell? ⟨w.heap.size, 2, none⟩ = _ := (World.cell?_of_block (a := ⟨w.heap.size, 2, none⟩) e1).trans c2
  have d3 : W1.cell? ⟨w.heap.size, 3, none⟩ = _ := (World.cell?_of_block (a := ⟨w.heap.size, 3, none⟩) e1).trans c3
  have hlt1 : w.heap.size < W1.heap.size := Nat.lt_of_lt_of_le hlt hs1.size
  have hb1 := hb0.step hs1 (fun h => h)
  obtain ⟨sa, sc, rfl⟩ := slc_form hst
  rw [length_be] at hst
  clear hu hn1 hb0 c0 c1 c2 c3 hbx e1
  go_wp2_with fail
  refine wp_region_need (fun w' => w'.cell? ⟨w.heap.size, 1, none⟩ = some (.int .i64 (at' : Int)) ∧ w'.cell? ⟨w.heap.size, 2, none⟩ = some (.int .i64 (of' : Int)) ∧ w'.cell? ⟨w.heap.size, 3, none⟩ = some (.slice ba bs.length bc)) (fun _ => true) (by kernel_rfl) ⟨d1, d2, d3⟩ (fun hHeld => ?_)
  refine wpAnyN_tk (i := 0) (v := ?_) rfl (by kernel_rfl) (fun _ _ _ h => h) (Or.inl ⟨by rfl, ?_⟩) (by assumption) ?_
  rotate_left
  · intro w hSw; ((try dsimp only at hSw); go_simp; (try with_reducible rfl))
  simp only [Act.put, List.setIfInBounds_toArray, List.set_cons_zero, List.set_cons_succ]
  refine wpAnyN_tk (i := 1) (v := ?_) rfl (by kernel_rfl) (fun _ _ _ h => h) (Or.inl ⟨by rfl, ?_⟩) (by assumption) ?_
  rotate_left
  · intro w hSw; ((try dsimp only at hSw); go_simp; (try with_reducible rfl))
  simp only [Act.put, List.setIfInBounds_toArray, List.set_cons_zero, List.set_cons_succ]
  refine wpAnyN_tk (i := 2) (v := ?_) rfl (by kernel_rfl) (fun _ _ _ h => h) (Or.inl ⟨by rfl, ?_⟩) (by assumption) ?_
  rotate_left
  · intro w hSw; ((try dsimp only at hSw); go_simp; (try with_reducible rfl))
  simp only [Act.put, List.setIfInBounds_toArray, List.set_cons_zero, List.set_cons_succ]
  refine wpAnyN_tk (i := 4) (v := ?_) rfl (by kernel_rfl) (fun _ _ _ h => h) (Or.inl ⟨by rfl, ?_⟩) (by assumption) ?_
  rotate_left
  · intro w hSw; ((try dsimp only at hSw); go_simp; (try with_reducible rfl))
  simp only [Act.put, List.setIfInBounds_toArray, List.set_cons_zero, List.set_cons_succ]
  refine wpAnyN_tk (i := 5) (v := ?_) rfl (by kernel_rfl) (fun _ _ _ h => h) (Or.inl ⟨by rfl, ?_⟩) (by assumption) ?_
  rotate_left
  · intro w hSw; ((try dsimp only at hSw); go_simp; (try with_reducible rfl))
  simp only [Act.put, List.setIfInBounds_toArray, List.set_cons_zero, List.set_cons_succ]
  refine wpAnyN_tk (i := 7) (v := ?_) rfl (by kernel_rfl) (fun _ _ _ h => h) (Or.inl ⟨by rfl, ?_⟩) (by assumption) ?_
  rotate_left
  · intro w hSw; ((try dsimp only at hSw); go_simp; (try with_reducible rfl))
  simp only [Act.put, List.setIfInBounds_toArray, List.set_cons_zero, List.set_cons_succ]
  refine wpAnyN_tk (i := 8) (v := ?_) rfl (by kernel_rfl) (fun _ _ _ h => h) (Or.inl ⟨by rfl, ?_⟩) (by assumption) ?_
  rotate_left
  · intro w hSw; ((try dsimp only at hSw); go_simp; (try with_reducible rfl))
  simp only [Act.put, List.setIfInBounds_toArray, List.set_cons_zero, List.set_cons_succ]
  refine wpAnyN_tk (i := 9) (v := ?_) rfl (by kernel_rfl) (fun _ _ _ h => h) (Or.inl ⟨by rfl, ?_⟩) (by assumption) ?_
  rotate_left
  · intro w hSw; ((try dsimp only at hSw); go_simp; (try with_reducible rfl))
  simp only [Act.put, List.setIfInBounds_toArray, List.set_cons_zero, List.set_cons_succ]
  refine wpAnyN_tk (i := 11) (v := ?_) rfl (by kernel_rfl) (fun _ _ _ h => h) (Or.inl ⟨by rfl, ?_⟩) (by assumption) ?_
  rotate_left
  · intro w hSw; ((try dsimp only at hSw); go_simp; (try with_reducible rfl))
  simp only [Act.put, List.setIfInBounds_toArray, List.set_cons_zero, List.set_cons_succ]
  refine wpAnyN_tk (i := 12) (v := ?_) rfl (by kernel_rfl) (fun _ _ _ h => h) (Or.inl ⟨by rfl, ?_⟩) (by assumption) ?_
  rotate_left
  · intro w hSw; ((try dsimp only at hSw); go_simp; (try with_reducible rfl))
  simp only [Act.put, List.setIfInBounds_toArray, List.set_cons_zero, List.set_cons_succ]
  refine wpAnyN_tk (i := 13) (v := ?_) rfl (by kernel_rfl) (fun _ _ _ h => h) (Or.inl ⟨by rfl, ?_⟩) (by assumption) ?_
  rotate_left
  · intro w hSw; ((try dsimp only at hSw); go_simp; (try with_reducible rfl))
  simp only [Act.put, List.setIfInBounds_toArray, List.set_cons_zero, List.set_cons_succ]
  refine wpAnyN_tk (i := 14) (v := ?_) rfl (by kernel_rfl) (fun _ _ _ h => h) (Or.inl ⟨by rfl, ?_⟩) (by assumption) ?_
  rotate_left
  · intro w hSw; ((try dsimp only at hSw); go_simp; (try with_reducible rfl))
  simp only [Act.put, List.setIfInBounds_toArray, List.set_cons_zero, List.set_cons_succ]
  refine wpAnyN_tk (i := 15) (v := ?_) rfl (by kernel_rfl) (fun _ _ _ h => h) (Or.inl ⟨by rfl, ?_⟩) (by assumption) ?_
  rotate_left
  · intro w hSw; ((try dsimp only at hSw); go_simp; (try with_reducible rfl))
  simp only [Act.put, List.setIfInBounds_toArray, List.set_cons_zero, List.set_cons_succ]
  refine wpAnyN_tk (i := 16) (v := ?_) rfl (by kernel_rfl) (fun _ _ _ h => h) (Or.inl ⟨by rfl, ?_⟩) (by assumption) ?_
  rotate_left
  · intro w hSw; ((try dsimp only at hSw); go_simp; (try with_reducible rfl))
  simp only [Act.put, List.setIfInBounds_toArray, List.set_cons_zero, List.set_cons_succ]
  have hsub : IntKind.i64.wrap ((480 : Int) - (bs.length : Int)) = ((480 - bs.length : Nat) : Int) := by simp [IntKind.wrap, IntKind.bits, IntKind.signed]; omega
  rw [hsub]
  clear hsub
  obtain ⟨z, hz⟩ : ∃ z, 480 - bs.length = z := ⟨_, rfl⟩
  rw [hz]
  have hz1 : z ≤ 480 := by omega
  have hzH := hidden hz
  clear hz
  have hdr : Step Nobody W1 o1 W1.drew o1 := (Step.refl _ _ _).drew
  have keep : ∀ {wa wb : World} {oa ob : Own}, Step Nobody wa oa wb ob → w.heap.size < wa.heap.size → (wa.cell? ⟨w.heap.size, 1, none⟩ = some (.int .i64 (at' : Int)) ∧ wa.cell? ⟨w.heap.size, 2, none⟩ = some (.int .i64 (of' : Int)) ∧ wa.cell? ⟨w.heap.size, 3, none⟩ = some (.slice ba bs.length bc)) →
      (wb.cell? ⟨w.heap.size, 1, none⟩ = some (.int .i64 (at' : Int)) ∧ wb.cell? ⟨w.heap.size, 2, none⟩ = some (.int .i64 (of' : Int)) ∧ wb.cell? ⟨w.heap.size, 3, none⟩ = some (.slice ba bs.length bc)) := fun hs hl h => by
    have e := hs.block w.heap.size hl (fun h => h)
    exact ⟨(World.cell?_of_block (a := ⟨w.heap.size, 1, none⟩) e).trans h.1, (World.cell?_of_block (a := ⟨w.heap.size, 2, none⟩) e).trans h.2.1, (World.cell?_of_block (a := ⟨w.heap.size, 3, none⟩) e).trans h.2.2⟩
  refine wpAnyN_midl (fuel := 3) [3, 6, 10, 17] [11, 14, 18, 25] [_, _, _, _] Nobody (fun s w' o' => Step Nobody W1.drew o1 w' o' ∧ (w'.cell? ⟨w.heap.size, 1, none⟩ = some (.int .i64 (at' : Int)) ∧ w'.cell? ⟨w.heap.size, 2, none⟩ = some (.int .i64 (of' : Int)) ∧ w'.cell? ⟨w.heap.size, 3, none⟩ = some (.slice ba bs.length bc)))
    (fun k u w' o' => Bytes w' o' u (([be 2 (BitVec.ofNat 64 at'), be 2 (BitVec.ofNat 64 of'), be 4 (BitVec.ofNat 64 bs.length), List.replicate z 0] : List (List UInt8)).getD k [])) rfl (by kernel_rfl)
    (fun k u w o w' o' h hs => h.step hs (fun h => h)) [undef, undef, undef, undef] rfl rfl ⟨Step.refl _ _ _, hHeld⟩ ⟨?_, ?_, ?_, ?_, trivial⟩ ?_
  · intro s us w2 o2 hsl hul hsk hdep hJ hR
    obtain ⟨u0, u1, u2, u3, rfl⟩ := len4 hul
    simp only [Act.puts, Act.put, List.setIfInBounds_toArray, List.set_cons_zero, List.set_cons_succ]
    go_wp2_with fail
    refine (small_any at' 2 ha (by omega) (by omega) w2 o2).mono ?_; rintro e w3 ⟨v3, o3, rfl, hs3, hb3⟩
    have hlt2 := Nat.lt_of_lt_of_le hlt1 hJ.1.size
    have hS3 := keep hs3 hlt2 hJ.2
    go_wp2_with fail
    exact ⟨v3, o3, rfl, hs3, ⟨hJ.1.trans hs3, hS3⟩, hb3, fun _ => hS3⟩
  · intro s us w2 o2 hsl hul hsk hdep hJ hR
    obtain ⟨u0, u1, u2, u3, rfl⟩ := len4 hul
    simp only [Act.puts, Act.put, List.setIfInBounds_toArray, List.set_cons_zero, List.set_cons_succ]
    go_wp2_with fail
    refine (small_any of' 2 hf (by omega) (by omega) w2 o2).mono ?_; rintro e w3 ⟨v3, o3, rfl, hs3, hb3⟩
    have hlt2 := Nat.lt_of_lt_of_le hlt1 hJ.1.size
    have hS3 := keep hs3 hlt2 hJ.2
    go_wp2_with fail
    exact ⟨v3, o3, rfl, hs3, ⟨hJ.1.trans hs3, hS3⟩, hb3, fun _ => hS3⟩
  · intro s us w2 o2 hsl hul hsk hdep hJ hR
    obtain ⟨u0, u1, u2, u3, rfl⟩ := len4 hul
    simp only [Act.puts, Act.put, List.setIfInBounds_toArray, List.set_cons_zero, List.set_cons_succ]
    go_wp2_with fail
    refine (small_any bs.length 4 (by omega) (by omega) (by omega) w2 o2).mono ?_; rintro e w3 ⟨v3, o3, rfl, hs3, hb3⟩
    have hlt2 := Nat.lt_of_lt_of_le hlt1 hJ.1.size
    have hS3 := keep hs3 hlt2 hJ.2
    go_wp2_with fail
    exact ⟨v3, o3, rfl, hs3, ⟨hJ.1.trans hs3, hS3⟩, hb3, fun _ => hS3⟩
  · intro s us w2 o2 hsl hul hsk hdep hJ hR
    obtain ⟨u0, u1, u2, u3, rfl⟩ := len4 hul
    simp only [Act.puts, Act.put, List.setIfInBounds_toArray, List.set_cons_zero, List.set_cons_succ]
    have hmk := run_make_zero (P := Try.prog) w2 28 5 _ 1 1 Try.underlying28 inf5 rfl z (by omega) (by omega) .i64 .i64
    rw [zeros_bvs] at hmk
    have hs3 : Step Nobody w2 o2 _ _ := (Step.refl _ w2 o2).alloc (.cells (bvs (List.replicate z 0)).toArray 5) (0, 0)
    have hb3 := bytes_zeros w2 o2 z (by omega)
    have hlt2 := Nat.lt_of_lt_of_le hlt1 hJ.1.size
    have hS3 := keep hs3 hlt2 hJ.2
    refine lit_makeSlice hmk ?_
    refine wpList_nil ?_
    exact ⟨_, _, rfl, hs3, ⟨hJ.1.trans hs3, hS3⟩, hb3, fun _ => hS3⟩
  intro us W2 o2 hul hJ hR
  obtain ⟨u0, u1, u2, u3, rfl⟩ := len4 hul
  simp only [Act.puts, Act.put, List.setIfInBounds_toArray, List.set_cons_zero, List.set_cons_succ]
  have r0 : Bytes W2 o2 u0 (be 2 (BitVec.ofNat 64 at')) := hR 0 (by simp)
  have r1 : Bytes W2 o2 u1 (be 2 (BitVec.ofNat 64 of')) := hR 1 (by simp)
  have r2 : Bytes W2 o2 u2 (be 4 (BitVec.ofNat 64 bs.length)) := hR 2 (by simp)
  have r3 : Bytes W2 o2 u3 (List.replicate z 0) := hR 3 (by simp)
  have hst2 := (hst1.trans hdr).trans hJ.1
  have hst2' := hJ.1
  have hS2 := hJ.2
  have hb2 := (hb1.step hdr (fun h => h)).step hJ.1 (fun h => h)
  have hs8 := (hst.step hdr (fun h => h)).step hJ.1 (fun h => h)
  clear hR hJ hst hb1 hst1
  obtain ⟨a0, c0, rfl⟩ := slc_form r0
  obtain ⟨a1, c1, rfl⟩ := slc_form r1
  obtain ⟨a2, c2, rfl⟩ := slc_form r2
  obtain ⟨a3, c3, rfl⟩ := slc_form r3
  simp only [length_be, List.length_replicate] at r0 r1 r2 r3 ⊢
  have hvs := slc_new W2 o2 28 [.slice sa 8 sc, .slice a0 2 c0, .slice a1 2 c1, .slice a2 4 c2, .slice ba bs.length bc, .slice a3 z c3] (by simp)
  have hsN : Step Nobody W2 o2 _ _ := (Step.refl _ W2 o2).alloc (.cells #[.slice sa 8 sc, .slice a0 2 c0, .slice a1 2 c1, .slice a2 4 c2, .slice ba bs.length bc, .slice a3 z c3] 28) (0, 0)
  have hlt2 := Nat.lt_of_lt_of_le (Nat.lt_of_lt_of_le hlt1 (Nat.le_refl _)) hst2'.size
  have hS4 := keep hsN hlt2 hS2
  have hrow := ((((((RowsB.nil W2 o2).cons r3).cons hb2).cons r2).cons r1).cons r0).cons hs8
  have hrow2 := hrow.step hsN (fun h => h)
  have hst3 := hst2.trans hsN
  have hs82 := hs8.step hsN (fun h => h)
  have hfl : [be 8 st, be 2 (BitVec.ofNat 64 at'), be 2 (BitVec.ofNat 64 of'), be 4 (BitVec.ofNat 64 bs.length), bs, List.replicate z 0].flatten = LeafM.said ⟨st, at', of', bs⟩ := by
    simp only [LeafM.said, List.flatten_cons, List.flatten_nil, List.append_nil, List.append_assoc, hzH.out]
  have hsl : (LeafM.said ⟨st, at', of', bs⟩).length = 496 := LeafM.length_said hl
  have hcc := concat_any hvs hrow2 (by rw [hfl, hsl]; omega) (by simp)
  rw [hfl] at hcc
  have hpg : LeafM.page ⟨st, at', of', bs⟩ = [LeafM.said ⟨st, at', of', bs⟩, be 8 (rev64 (crcSum (LeafM.said ⟨st, at', of', bs⟩))), be 8 st].flatten := by
    simp only [LeafM.page, be_rev, List.flatten_cons, List.flatten_nil, List.append_nil, List.append_assoc]
  obtain ⟨sd, hsdE⟩ : ∃ sd, LeafM.said ⟨st, at', of', bs⟩ = sd := ⟨_, rfl⟩
  rw [hsdE] at hpg hcc hsl
  have hpgH := hidden hpg
  clear hfl hpg hrow r0 r1 r2 r3 hs8 hb2 hst2 hsN hrow2 hvs hsdE
  refine wpAnyN_one (i := 18) rfl (by kernel_rfl) ?_
  go_wp2_with fail
  refine ⟨fun _ => hS4, ?_⟩
  refine wpAnyN_one (i := 19) rfl (by kernel_rfl) ?_
  go_wp2_with fail
  refine hcc.mono ?_; rintro e W4 ⟨v4, o4, rfl, hs4, hn4⟩
  have hS5 := keep hs4 (Nat.lt_of_lt_of_le hlt2 (by simp)) hS4
  have hst4 := hst3.trans hs4
  have hs83 := hs82.step hs4 (fun h => h)
  have hsd := hn4.bytes
  go_wp2_with fail
  refine ⟨fun _ => hS5, ?_⟩
  refine wpAnyN_one (i := 20) rfl (by kernel_rfl) ?_
  go_wp2_with fail
  refine ⟨fun _ => hS5, ?_⟩
  refine wpAnyN_done (by kernel_rfl) ?_ _
  obtain ⟨da, dc, rfl⟩ := slc_form hsd
  have hcrc := crc_any hsd (by omega)
  clear hcc hn4 hS5 hS4 keep hs82 hst3
  have hslH := hidden hsl
  rw [hsl] at hsd hcrc ⊢
  clear hsl
  go_wp2_with fail
  refine hcrc.mono ?_; rintro e w' ⟨rfl, rfl⟩
  go_wp2_with fail
  refine (rev64_any _ _).mono ?_; rintro e w' ⟨rfl, rfl⟩
  go_wp2_with fail
  refine (wuint_any (Bytes.nil W4 o4) (by simp) _).mono ?_; rintro e W5 ⟨v5, o5, rfl, hs5, hn5⟩
  have hb5 := hn5.bytes
  rw [List.nil_append] at hb5
  obtain ⟨fa, fc, rfl⟩ := slc_form hb5
  rw [length_be] at hb5 ⊢
  have hst5 := hst4.trans hs5
  have hsd5 := hsd.step hs5 (fun h => h)
  have hs85 := hs83.step hs5 (fun h => h)
  have hvs := slc_new W5 o5 28 [.slice da 496 dc, .slice fa 8 fc, .slice sa 8 sc] (by simp)
  have hsN : Step Nobody W5 o5 _ _ := (Step.refl _ W5 o5).alloc (.cells #[.slice da 496 dc, .slice fa 8 fc, .slice sa 8 sc] 28) (0, 0)
  have hrow := (((RowsB.nil W5 o5).cons hs85).cons hb5).cons hsd5
  have hrow2 := hrow.step hsN (fun h => h)
  have hst6 := hst5.trans hsN
  have hcc := concat_any hvs hrow2 (by simp [length_be, hslH.out]) (by simp)
  clear hrow hrow2 hvs hsN hst5 hs85 hsd5 hb5 hn5
  go_wp2_with fail
  refine hcc.mono ?_; rintro e W6 ⟨v6, o6, rfl, hs6, hn6⟩
  go_wp2_with fail
  go_ret
  have hst7 := hst6.trans hs6
  rw [hpgH.out]
  refine ⟨_, (fun k => if k < w.heap.size then o k else (0, 0)), rfl, ⟨hst7.os, hst7.tape, hst7.output, hst7.size, fun k hk => if_pos hk, fun k hk h => hst7.block k hk h⟩, ?_⟩
  refine ⟨⟨hn6.1.1, ?_⟩, ?_⟩
  · rcases hn6.1.2 with h | ⟨g, cap, cur, h1, h2, h3⟩
    · exact .inl h
    · exact .inr ⟨g, cap, cur, h1, Nat.le_trans hst6.size h2, h3⟩
  · intro k hk
    exact if_neg (by have h1 := (hn6.1.lt k hk).1; have h2 := hst6.size; omega)
end Go.Proofs.YtfgggkheadfiaaaR
/- Contract: what a page says. -/
namespace Go.Proofs.YtfgggkheadfiaaaR
open Go Go.RowKit
attribute [local go_sem ↓] Go.wp_at_zero Go.wp_at_succ

/-- A leaf as a value. -/
def leafV (x : LeafM) (bv : Value) : List Value := [.int .u64 (x.stamp.toNat : Int), .int .i64 (x.at' : Int), .int .i64 (x.of' : Int), bv]
theorem part_fresh {w : World} {o : Own} {b off n c : Nat} {l : List UInt8} (h : Bytes w o (.slice (some ⟨b, off, none⟩) n c) l) (lo hi : Nat) (h1 : lo ≤ hi) (h2 : hi ≤ l.length) (m : Nat) (hm : hi - lo = m) :
    Bytes w o (.slice (some ⟨b, off + lo, none⟩) m (c - lo)) ((l.drop lo).take m) := by
  subst hm; exact h.part lo hi h1 h2

theorem results_row_tmp {P : Program} {fn : Func} {p u : Tmp} {ty : TypeId} (h : fn.results = #[.cell p ty, .tmp u]) (tmps : Array Value) (w : World) (g : Nat) (t : TypeId) (cs : Array Value) (fr : Nat × Nat) (d : TypeDesc)
    (hp : tmps.getD p undef = .pointer (some ⟨g, 0, none⟩)) (hg : w.heap[g]? = some (.cells cs t fr))
    (hu : P.underlying ty = some d) (hd : (match d with | .struct _ | .array _ _ => true | _ => false) = true) (hi : (P.info? ty).map (·.size) = some cs.size) :
    (results fn tmps).run P w = .ok (.tuple #[.agg cs, tmps.getD u undef]) w := by
  rw [results_cell_tmp h, hp]
  simp [asAddr, run_loadVar_row w g t ty cs fr d hg hu hd hi]
theorem len7 {α : Type} {l : List α} (h : l.length = 7) : ∃ a b c d e f g, l = [a, b, c, d, e, f, g] := by
  match l, h with
  | [a, b, c, d, e, f, g], _ => exact ⟨a, b, c, d, e, f, g, rfl⟩
theorem wrap_i64 {n : Int} (h1 : -9223372036854775808 ≤ n) (h2 : n ≤ 9223372036854775807) : IntKind.i64.wrap n = n := by
  simp [IntKind.wrap, IntKind.bits, IntKind.signed]; omega
theorem run_store_agg {P : Program} {w : World} {b : Nat} {cs vs : List Value} {E ty : TypeId} (h : w.heap[b]? = some (.cells cs.toArray E (0, 0))) (hl : vs.length = cs.length) (hi : (P.info? ty).map (·.size) = some vs.length) (h1 : vs.all (·.oneCell') = true) :
    (Instr.storeAt ty (.pointer (some ⟨b, 0, none⟩)) (.agg vs.toArray)).run P w = .ok () (w.setCells b 0 vs) ∧ (w.setCells b 0 vs).heap[b]? = some (.cells vs.toArray E (0, 0)) := by
  constructor
  · have ht := there_of_block h 0 vs.length (by omega)
    simp only [Instr.storeAt, Instr.sureAddr, Sem.run_bind, Sem.run_pure, Result.andThen_ok]
    rw [run_storeVar_mid w b 0 ty vs.toArray (by simpa using ht) (by simpa using hi) (all_oneCell_toArray (by simpa using h1))]
  · have := heap_setCells_same b E vs 0 w cs h (by omega)
    rw [this]
    simp [hl]
set_option maxRecDepth 100000 in
set_option maxHeartbeats 3200000 in
theorem said_any {w : World} {o : Own} {v : Value} {p : List UInt8} (hb : Bytes w o v p) (hp : p.length = 512) :
    Calls Try.prog 78 #[v] w (Ret Nobody w o fun v w' o' => ∃ bv, v = .tuple #[.agg (leafV (saidL p).1 bv).toArray, .bool (saidL p).2] ∧ Bytes w' o' bv (saidL p).1.bytes) := by
  have hs0 : Step Nobody w o (w.alloc (.cells #[.int .u64 0, .int .i64 0, .int .i64 0, .slice none 0 0] 139)) (tagAt o w.heap.size (0, 0)) := (Step.refl _ w o).alloc _ _
  have hbx : (w.alloc (.cells #[.int .u64 0, .int .i64 0, .int .i64 0, .slice none 0 0] 139)).heap[w.heap.size]? = some (.cells #[.int .u64 0, .int .i64 0, .int .i64 0, .slice none 0 0] 139 (0, 0)) := heap_alloc_new w _
  have hb0 := hb.step hs0 (fun h => h)
  have hlt := lt_of_block hbx
  obtain ⟨X, hX0, hXf⟩ := fresh_tag o w.heap.size 0
  have hX : X ≠ 0 := by omega
  have hN : ¬ Only X 0 := fun h => hX h.symm
  clear hX0
  rcases hb.cases with ⟨_, rfl⟩ | ⟨b, off, cap, rfl, hcl, hcm, hbo, hbl, hr⟩
  · simp at hp
  rw [hp] at hb0 hcl ⊢
  have q1 := part_fresh hb0 0 8 (by omega) (by omega) 8 rfl
  have q2 := part_fresh hb0 8 10 (by omega) (by omega) 2 rfl
  have q3 := part_fresh hb0 10 12 (by omega) (by omega) 2 rfl
  have q4 := part_fresh hb0 12 16 (by omega) (by omega) 4 rfl
  have q5 := fun (n : Nat) (hn : n ≤ 480) => part_fresh hb0 16 (16 + n) (by omega) (by omega) n (by omega)
  have hc1 : (512 : Int) ≤ (cap : Int) := by omega
  have hc2 : (cap : Int) ≤ 9223372036854775807 := by simp only [maxLen] at hcm; omega
  have n8 : ¬ (cap = 8) := by omega
  have k8 : (8 : Int) ≤ (cap : Int) := by omega
  have k10 : (10 : Int) ≤ (cap : Int) := by omega
  have k12 : (12 : Int) ≤ (cap : Int) := by omega
  have k16 : (16 : Int) ≤ (cap : Int) := by omega
  have n10 : ¬ (cap = 10) := by omega
  have n12 : ¬ (cap = 12) := by omega
  have n16 : ¬ (cap = 16) := by omega
  clear hb hr
  obtain ⟨W0, hW0⟩ : ∃ W0, w.alloc (.cells #[.int .u64 0, .int .i64 0, .int .i64 0, .slice none 0 0] 139) = W0 := ⟨_, rfl⟩
  rw [hW0] at hs0 hbx hb0 hlt q1 q2 q3 q4 q5
  generalize tagAt o w.heap.size (0, 0) = o0 at *
  have hW0H := hidden hW0
  clear hW0
  go_enter Try.func78, Try.ntmps78
  go_wp2_with fail
  rw [hW0H.out]
  refine wp_region_need (fun w' => True) (fun _ => true) (by kernel_rfl) trivial (fun hHeld => ?_)
  refine wpAnyN_tk (i := 0) (v := ?_) rfl (by kernel_rfl) (fun _ _ _ h => h) (Or.inl ⟨by rfl, ?_⟩) (by assumption) ?_
  rotate_left
  · intro w hSw; ((try dsimp only at hSw); go_simp; (try with_reducible rfl))
  simp only [Act.put, List.setIfInBounds_toArray, List.set_cons_zero, List.set_cons_succ]
  refine wpAnyN_tk (i := 1) (v := ?_) rfl (by kernel_rfl) (fun _ _ _ h => h) (Or.inl ⟨by rfl, ?_⟩) (by assumption) ?_
  rotate_left
  · intro w hSw; ((try dsimp only at hSw); go_simp; (try with_reducible rfl))
  simp only [Act.put, List.setIfInBounds_toArray, List.set_cons_zero, List.set_cons_succ]
  refine wpAnyN_tk (i := 3) (v := ?_) rfl (by kernel_rfl) (fun _ _ _ h => h) (Or.inl ⟨by rfl, ?_⟩) (by assumption) ?_
  rotate_left
  · intro w hSw; ((try dsimp only at hSw); go_simp; (try with_reducible rfl))
  simp only [Act.put, List.setIfInBounds_toArray, List.set_cons_zero, List.set_cons_succ]
  refine wpAnyN_tk (i := 4) (v := ?_) rfl (by kernel_rfl) (fun _ _ _ h => h) (Or.inl ⟨by rfl, ?_⟩) (by assumption) ?_
  rotate_left
  · intro w hSw; ((try dsimp only at hSw); go_simp; (try with_reducible rfl))
  simp only [Act.put, List.setIfInBounds_toArray, List.set_cons_zero, List.set_cons_succ]
  refine wpAnyN_tk (i := 7) (v := ?_) rfl (by kernel_rfl) (fun _ _ _ h => h) (Or.inl ⟨by rfl, ?_⟩) (by assumption) ?_
  rotate_left
  · intro w hSw; ((try dsimp only at hSw); go_simp; (try with_reducible rfl))
  simp only [Act.put, List.setIfInBounds_toArray, List.set_cons_zero, List.set_cons_succ]
  refine wpAnyN_tk (i := 8) (v := ?_) rfl (by kernel_rfl) (fun _ _ _ h => h) (Or.inl ⟨by rfl, ?_⟩) (by assumption) ?_
  rotate_left
  · intro w hSw; ((try dsimp only at hSw); go_simp; (try with_reducible rfl))
  simp only [Act.put, List.setIfInBounds_toArray, List.set_cons_zero, List.set_cons_succ]
  have hdr : Step Nobody W0 o0 W0.drew o0 := (Step.refl _ _ _).drew
  have ha1 : (num ((p.drop 8).take 2)).toNat < 65536 := by rw [num_small (by simp; omega)]; have := numN_lt ((p.drop 8).take 2); have h2 : ((p.drop 8).take 2).length = 2 := by simp; omega
                                                           rw [h2] at this; omega
  have ha2 : (num ((p.drop 10).take 2)).toNat < 65536 := by rw [num_small (by simp; omega)]; have := numN_lt ((p.drop 10).take 2); have h2 : ((p.drop 10).take 2).length = 2 := by simp; omega
                                                            rw [h2] at this; omega
  refine wpAnyN_midl (fuel := 1) [2, 5, 6, 9, 10, 11, 12] [8, 11, 12, 15, 16, 17, 4] [_, _, _, _, _, _, _] Nobody (fun s w' o' => Step Nobody W0.drew o0 w' o')
    (fun k u w' o' => match k with
      | 0 => u = .int .u64 ((num (p.take 8)).toNat : Int)
      | 1 => u = .int .u64 ((num ((p.drop 8).take 2)).toNat : Int)
      | 2 => u = .int .i64 ((num ((p.drop 8).take 2)).toNat : Int)
      | 3 => u = .int .u64 ((num ((p.drop 10).take 2)).toNat : Int)
      | 4 => u = .int .i64 ((num ((p.drop 10).take 2)).toNat : Int)
      | 5 => u = .agg #[.int .u64 ((num (p.take 8)).toNat : Int), .int .i64 ((num ((p.drop 8).take 2)).toNat : Int), .int .i64 ((num ((p.drop 10).take 2)).toNat : Int), .slice none 0 0]
      | _ => ∃ g, u = .pointer (some ⟨g, 0, none⟩) ∧ W0.heap.size ≤ g ∧ w'.heap[g]? = some (.cells #[.int .u64 0, .int .i64 0, .int .i64 0, .slice none 0 0] 139 (0, 0)) ∧ o' g = (X, 0)) rfl (by kernel_rfl)
    (fun k u w o w' o' h hs => by
      match k with
      | 0 => exact h
      | 1 => exact h
      | 2 => exact h
      | 3 => exact h
      | 4 => exact h
      | 5 => exact h
      | k + 6 =>
        obtain ⟨g, rfl, hg, hh, hog⟩ := h
        exact ⟨g, rfl, hg, by rw [hs.block g (lt_of_block hh) (fun h => h)]; exact hh, by rw [hs.own g (lt_of_block hh)]; exact hog⟩) [undef, undef, undef, undef, undef, undef, undef] rfl rfl (Step.refl _ _ _) ⟨?_, ?_, ?_, ?_, ?_, ?_, ?_, trivial⟩ ?_
  · intro s us w2 o2 hsl hul hsk hdep hJ hR
    obtain ⟨u0, u1, u2, u3, u4, u5, u6, rfl⟩ := len7 hul
    simp only [Act.puts, Act.put, List.setIfInBounds_toArray, List.set_cons_zero, List.set_cons_succ]
    have hq := (q1.step hdr (fun h => h)).step hJ (fun h => h)
    go_wp2_with fail
    refine (lnumber_any hq (by simp; omega)).mono ?_; rintro e w3 ⟨rfl, rfl⟩
    go_wp2_with fail
    exact ⟨_, o2, rfl, Step.refl _ _ _, hJ, rfl, fun _ => trivial⟩
  · intro s us w2 o2 hsl hul hsk hdep hJ hR
    obtain ⟨u0, u1, u2, u3, u4, u5, u6, rfl⟩ := len7 hul
    simp only [Act.puts, Act.put, List.setIfInBounds_toArray, List.set_cons_zero, List.set_cons_succ]
    have hq := (q2.step hdr (fun h => h)).step hJ (fun h => h)
    go_wp2_with fail
    refine (lnumber_any hq (by simp; omega)).mono ?_; rintro e w3 ⟨rfl, rfl⟩
    go_wp2_with fail
    exact ⟨_, o2, rfl, Step.refl _ _ _, hJ, rfl, fun _ => trivial⟩
  · intro s us w2 o2 hsl hul hsk hdep hJ hR
    obtain ⟨u0, u1, u2, u3, u4, u5, u6, rfl⟩ := len7 hul
    simp only [Act.puts, Act.put, List.setIfInBounds_toArray, List.set_cons_zero, List.set_cons_succ]
    have hu : u1 = .int .u64 _ := hR 1 (hdep 1 5 rfl (by kernel_rfl))
    subst hu
    go_wp2_with fail
    exact ⟨_, o2, rfl, Step.refl _ _ _, hJ, rfl, fun _ => trivial⟩
  · intro s us w2 o2 hsl hul hsk hdep hJ hR
    obtain ⟨u0, u1, u2, u3, u4, u5, u6, rfl⟩ := len7 hul
    simp only [Act.puts, Act.put, List.setIfInBounds_toArray, List.set_cons_zero, List.set_cons_succ]
    have hq := (q3.step hdr (fun h => h)).step hJ (fun h => h)
    go_wp2_with fail
    refine (lnumber_any hq (by simp; omega)).mono ?_; rintro e w3 ⟨rfl, rfl⟩
    go_wp2_with fail
    exact ⟨_, o2, rfl, Step.refl _ _ _, hJ, rfl, fun _ => trivial⟩
  · intro s us w2 o2 hsl hul hsk hdep hJ hR
    obtain ⟨u0, u1, u2, u3, u4, u5, u6, rfl⟩ := len7 hul
    simp only [Act.puts, Act.put, List.setIfInBounds_toArray, List.set_cons_zero, List.set_cons_succ]
    have hu : u3 = .int .u64 _ := hR 3 (hdep 3 9 rfl (by kernel_rfl))
    subst hu
    go_wp2_with fail
    exact ⟨_, o2, rfl, Step.refl _ _ _, hJ, rfl, fun _ => trivial⟩
  · intro s us w2 o2 hsl hul hsk hdep hJ hR
    obtain ⟨u0, u1, u2, u3, u4, u5, u6, rfl⟩ := len7 hul
    simp only [Act.puts, Act.put, List.setIfInBounds_toArray, List.set_cons_zero, List.set_cons_succ]
    have hu : u0 = .int .u64 _ := hR 0 (hdep 0 2 rfl (by kernel_rfl))
    have hu2 : u2 = .int .i64 _ := hR 2 (hdep 2 6 rfl (by kernel_rfl))
    have hu4 : u4 = .int .i64 _ := hR 4 (hdep 4 10 rfl (by kernel_rfl))
    subst hu hu2 hu4
    go_wp2_with fail
    exact ⟨_, o2, rfl, Step.refl _ _ _, hJ, rfl, fun _ => trivial⟩
  · intro s us w2 o2 hsl hul hsk hdep hJ hR
    obtain ⟨u0, u1, u2, u3, u4, u5, u6, rfl⟩ := len7 hul
    simp only [Act.puts, Act.put, List.setIfInBounds_toArray, List.set_cons_zero, List.set_cons_succ]
    have hsa := (Step.refl Nobody w2 o2).alloc (.cells #[.int .u64 0, .int .i64 0, .int .i64 0, .slice none 0 0] 139) (X, 0)
    have hnew := heap_alloc_new w2 (.cells #[.int .u64 0, .int .i64 0, .int .i64 0, .slice none 0 0] 139)
    have hsz := hJ.size
    go_wp2_with fail
    exact ⟨_, _, rfl, hsa, hJ.trans hsa, ⟨_, rfl, hsz, hnew, tagAt_same _ _ _⟩, fun _ => trivial⟩
  intro us W2 o2 hul hJ hR
  obtain ⟨u0, u1, u2, u3, u4, u5, u6, rfl⟩ := len7 hul
  simp only [Act.puts, Act.put, List.setIfInBounds_toArray, List.set_cons_zero, List.set_cons_succ]
  have r0 : u0 = .int .u64 ((num (p.take 8)).toNat : Int) := hR 0 (by simp)
  have r1 : u1 = .int .u64 ((num ((p.drop 8).take 2)).toNat : Int) := hR 1 (by simp)
  have r2 : u2 = .int .i64 ((num ((p.drop 8).take 2)).toNat : Int) := hR 2 (by simp)
  have r3 : u3 = .int .u64 ((num ((p.drop 10).take 2)).toNat : Int) := hR 3 (by simp)
  have r4 : u4 = .int .i64 ((num ((p.drop 10).take 2)).toNat : Int) := hR 4 (by simp)
  have r5 : u5 = .agg #[.int .u64 ((num (p.take 8)).toNat : Int), .int .i64 ((num ((p.drop 8).take 2)).toNat : Int), .int .i64 ((num ((p.drop 10).take 2)).toNat : Int), .slice none 0 0] := hR 5 (by simp)
  have r6 : ∃ g, u6 = .pointer (some ⟨g, 0, none⟩) ∧ W0.heap.size ≤ g ∧ W2.heap[g]? = some (.cells #[.int .u64 0, .int .i64 0, .int .i64 0, .slice none 0 0] 139 (0, 0)) ∧ o2 g = (X, 0) := hR 6 (by simp)
  obtain ⟨g, rfl, hgw, hgh, hgo⟩ := r6
  subst r0 r1 r2 r3 r4 r5
  clear hR
  obtain ⟨A, hA⟩ : ∃ A, num (p.take 8) = A := ⟨_, rfl⟩
  obtain ⟨B, hB⟩ : ∃ B, (num ((p.drop 8).take 2)).toNat = B := ⟨_, rfl⟩
  obtain ⟨C, hC⟩ : ∃ C, (num ((p.drop 10).take 2)).toNat = C := ⟨_, rfl⟩
  rw [hA, hB, hC]
  rw [hB] at ha1
  rw [hC] at ha2
  have hAH := hidden hA
  have hBH := hidden hB
  have hCH := hidden hC
  clear hA hB hC
  have hst := ((hs0.trans hdr).trans hJ).only X
  have hbW := (hb0.step hdr (fun h => h)).step hJ (fun h => h)
  have q4' := (q4.step hdr (fun h => h)).step hJ (fun h => h)
  have q5' := fun n hn => ((q5 n hn).step hdr (fun h => h)).step hJ (fun h => h)
  have hbxW : W2.heap[w.heap.size]? = _ := (hJ.block w.heap.size hlt (fun h => h)).trans hbx
  have hgw2 : w.heap.size < g := by omega
  clear hJ q1 q2 q3 q4 q5 hbx hb0 hs0 hdr hHeld
  have hHeld : True := trivial
  obtain ⟨hsr, hsh⟩ := run_store_agg (P := Try.prog) (ty := 139) (vs := [.int .u64 (A.toNat : Int), .int .i64 (B : Int), .int .i64 (C : Int), .slice none 0 0]) hgh rfl (by kernel_rfl) rfl
  have hs3 := (Step.refl (Only X) W2 o2).setCells g 0 [.int .u64 (A.toNat : Int), .int .i64 (B : Int), .int .i64 (C : Int), .slice none 0 0] (.inl (by rw [hgo]; rfl))
  refine wpAnyN_one (i := 13) rfl (by kernel_rfl) ?_
  refine lit_store hsr ?_
  refine wpList_nil ?_
  refine ⟨fun _ => trivial, ?_⟩
  refine wpAnyN_done (by kernel_rfl) ?_ _
  have hst := hst.trans hs3
  have hbW := hbW.step hs3 hN
  have q4' := q4'.step hs3 hN
  have q5' := fun n hn => (q5' n hn).step hs3 hN
  have hgl := lt_of_block hgh
  have hgw' : w.heap.size < W2.heap.size := by omega
  have hbxW : (W2.setCells g 0 [.int .u64 (A.toNat : Int), .int .i64 (B : Int), .int .i64 (C : Int), .slice none 0 0]).heap[w.heap.size]? = _ := (heap_setCells_other g _ 0 W2 w.heap.size (by omega)).trans hbxW
  have hszW := size_setCells g [.int .u64 (A.toNat : Int), .int .i64 (B : Int), .int .i64 (C : Int), .slice none 0 0] 0 W2
  clear hs3 hsr hgh
  generalize W2.setCells g 0 [.int .u64 (A.toNat : Int), .int .i64 (B : Int), .int .i64 (C : Int), .slice none 0 0] = W3 at *
  have x0 := cell_of_block hsh 0
  simp only [List.getElem?_cons_zero] at x0
  go_wp2_with fail
  refine (lnumber_any q4' (by simp; omega)).mono ?_; rintro e w' ⟨rfl, rfl⟩
  obtain ⟨N, hNe⟩ : ∃ N, num ((p.drop 12).take 4) = N := ⟨_, rfl⟩
  rw [hNe]
  have hNH := hidden hNe
  clear hNe q4'
  by_cases hA0 : A = 0#64
  · have hE : saidL p = (noLeaf, false) := by unfold saidL; rw [hAH.out, if_pos (.inl hA0)]
    have hEH := hidden hE
    clear hE
    subst hA0
    have hz : (((0#64 : BitVec 64)).toNat : Int) = 0 := rfl
    rw [hz] at x0 hsh ⊢
    clear hz
    obtain ⟨hsr0, hsh0⟩ := run_store_agg (P := Try.prog) (ty := 139) (vs := [.int .u64 0, .int .i64 0, .int .i64 0, .slice none 0 0]) hbxW rfl (by kernel_rfl) rfl
    have hs4 := (Step.refl (Only X) W3 o2).setCells w.heap.size 0 [.int .u64 0, .int .i64 0, .int .i64 0, .slice none 0 0]
    have hst4 := hst.setCells w.heap.size 0 [.int .u64 0, .int .i64 0, .int .i64 0, .slice none 0 0] (.inr (Nat.le_refl _))
    have hsrH := hidden hsr0
    clear hsr0 hs4 hbW q5' hsh hbxW
    go_wp2_with ((with_reducible apply lit_store); exact hsrH.out; simp only [Act.put])
    refine bodyPost_ret (results_row_tmp rfl _ _ w.heap.size 139 _ (0, 0) _ rfl hsh0 Try.underlying139 rfl (by kernel_rfl)) rfl ?_
    rw [hEH.out]
    exact ⟨_, o2, rfl, hst4.nobody hXf, _, rfl, Bytes.nil _ _⟩
  · by_cases hN0 : 480 < N.toNat
    · have hE : saidL p = (noLeaf, false) := by unfold saidL; rw [hNH.out, if_pos (.inr hN0)]
      have hEH := hidden hE
      clear hE
      have hA1 : ((A.toNat : Int) == 0) = false := by
        rw [beq_eq_false_iff_ne]; intro h
        exact hA0 (BitVec.eq_of_toNat_eq (by simp; omega))
      have hN1 : (480 : Int) < (N.toNat : Int) := by omega
      obtain ⟨hsr0, hsh0⟩ := run_store_agg (P := Try.prog) (ty := 139) (vs := [.int .u64 0, .int .i64 0, .int .i64 0, .slice none 0 0]) hbxW rfl (by kernel_rfl) rfl
      have hst4 := hst.setCells w.heap.size 0 [.int .u64 0, .int .i64 0, .int .i64 0, .slice none 0 0] (.inr (Nat.le_refl _))
      have hsrH := hidden hsr0
      clear hsr0 hbW q5' hsh hbxW hA0 hN0
      go_wp2_with ((with_reducible apply lit_store); exact hsrH.out; simp only [Act.put])
      refine bodyPost_ret (results_row_tmp rfl _ _ w.heap.size 139 _ (0, 0) _ rfl hsh0 Try.underlying139 rfl (by kernel_rfl)) rfl ?_
      rw [hEH.out]
      exact ⟨_, o2, rfl, hst4.nobody hXf, _, rfl, Bytes.nil _ _⟩
    · have hA1 : ((A.toNat : Int) == 0) = false := by
        rw [beq_eq_false_iff_ne]; intro h
        exact hA0 (BitVec.eq_of_toNat_eq (by simp; omega))
      have hN1 : ¬ (480 : Int) < (N.toNat : Int) := by omega
      obtain ⟨n, hn⟩ : ∃ n, N.toNat = n := ⟨_, rfl⟩
      rw [hn] at hN0 hN1 ⊢
      have hE : saidL p = (⟨A, B, C, (p.drop 16).take n⟩, LeafM.page ⟨A, B, C, (p.drop 16).take n⟩ == p) := by
        unfold saidL
        rw [hNH.out, hAH.out, hn, if_neg (by simp only [not_or]; exact ⟨hA0, hN0⟩)]
        unfold leafOf
        rw [hAH.out, hBH.out, hCH.out, hNH.out, hn]
      have hEH := hidden hE
      clear hE
      have hq := q5' n (by omega)
      have hcl5 := clone_any (l := (p.drop 16).take n) hq (by simp; omega)
      clear q5' hA0 hn
      have hn480 : (n : Int) ≤ 480 := by omega
      have k16n : (16 : Int) + (n : Int) ≤ (cap : Int) := by omega
      have k16m : (16 : Int) ≤ 16 + (n : Int) := by omega
      go_wp2_with fail
      refine hcl5.mono ?_; rintro e W4 ⟨v4, o4, rfl, hs5, hn4⟩
      have hpl : ((p.drop 16).take n).length = n := by simp; omega
      obtain ⟨pl, hple⟩ : ∃ pl, (p.drop 16).take n = pl := ⟨_, rfl⟩
      rw [hple] at hn4 hpl hEH
      have hb4 := hn4.bytes
      have hown4 := hn4.1
      obtain ⟨a4, c4, rfl⟩ := slc_form hb4
      have hbne' : ∀ b' off', a4 = some ⟨b', off', none⟩ → b' ≠ w.heap.size := fun b' off' h => by
        subst h
        have h1 := (hown4.lt b' rfl).1
        have h2 := lt_of_block hbxW
        omega
      clear hown4
      rw [hpl] at hb4 ⊢
      have hplH := hidden hpl
      have hgl3 := lt_of_block hsh
      have hwl3 := lt_of_block hbxW
      have hsh4 : W4.heap[g]? = _ := (hs5.block g hgl3 (fun h => h)).trans hsh
      have hbx4 : W4.heap[w.heap.size]? = _ := (hs5.block w.heap.size hwl3 (fun h => h)).trans hbxW
      have hgo4 : o4 g = (X, 0) := (hs5.own g hgl3).trans hgo
      have hst5 := hst.trans (hs5.only X)
      have hbW4 := hbW.step hs5 (fun h => h)
      have y3 := cell_of_block hsh4 3
      have f3 := free_of_block hsh4 3
      simp only [List.getElem?_cons_succ, List.getElem?_cons_zero] at y3
      have hs6 := (Step.refl (Only X) W4 o4).setCell (a := ⟨g, 3, none⟩) (.slice a4 n c4) (.inl (by rw [hgo4]; rfl))
      have hsh6 := heap_setCell_at (i := 3) (.slice a4 n c4) hsh4
      simp only [List.set_cons_succ, List.set_cons_zero] at hsh6
      have hst6 := hst5.trans hs6
      have hbW6 := hbW4.step hs6 hN
      have hb6 := hb4.step hs6 hN
      have hbx6 : (W4.setCell ⟨g, 3, none⟩ (.slice a4 n c4)).heap[w.heap.size]? = _ := (Below.heap_setCell _ _ _ _ (by show w.heap.size ≠ g; omega)).trans hbx4
      have hgne : w.heap.size ≠ g := by omega
      clear hcl5 hn4 hb4 hpl hple hs6 hsh4 hbx4 hst5 hbW4 hst hbW hsh hbxW hs5 x0 hq
      go_wp2_with fail
      obtain ⟨W5, hW5⟩ : ∃ W5, W4.setCell ⟨g, 3, none⟩ (.slice a4 n c4) = W5 := ⟨_, rfl⟩
      rw [hW5] at hsh6 hst6 hbW6 hb6 hbx6 ⊢
      clear hW5 y3 f3
      have hrg : W5.rangeAt g 0 [.int .u64 (A.toNat : Int), .int .i64 (B : Int), .int .i64 (C : Int), .slice a4 n c4] := range_whole hsh6
      refine wp_region_need (fun w' => w'.rangeAt g 0 [.int .u64 (A.toNat : Int), .int .i64 (B : Int), .int .i64 (C : Int), .slice a4 n c4]) (fun _ => true) (by kernel_rfl) hrg (fun hHeld => ?_)
      refine wpAnyN_tk (i := 0) (v := .agg #[.int .u64 (A.toNat : Int), .int .i64 (B : Int), .int .i64 (C : Int), .slice a4 n c4]) rfl (by kernel_rfl) (fun _ _ _ h => h)
        (yieldsIf_load_mid rfl 139 (.tmp 4) rfl g 0 rfl [.int .u64 (A.toNat : Int), .int .i64 (B : Int), .int .i64 (C : Int), .slice a4 n c4] _ (fun w h => h) Try.underlying139 rfl (by kernel_rfl)) (by assumption) ?_
      simp only [Act.put, List.setIfInBounds_toArray, List.set_cons_zero, List.set_cons_succ]
      refine wpAnyN_tk (i := 1) (v := .agg #[.int .u64 (A.toNat : Int), .int .i64 (B : Int), .int .i64 (C : Int), .slice a4 n c4]) rfl (by kernel_rfl) (fun _ _ _ h => h)
        (yieldsIf_load_mid rfl 139 (.tmp 4) rfl g 0 rfl [.int .u64 (A.toNat : Int), .int .i64 (B : Int), .int .i64 (C : Int), .slice a4 n c4] _ (fun w h => h) Try.underlying139 rfl (by kernel_rfl)) (by assumption) ?_
      simp only [Act.put, List.setIfInBounds_toArray, List.set_cons_zero, List.set_cons_succ]
      refine wpAnyN_tk (i := 3) (v := ?_) rfl (by kernel_rfl) (fun _ _ _ h => h) (Or.inl ⟨by rfl, ?_⟩) (by assumption) ?_
      rotate_left
      · intro w hSw; ((try dsimp only at hSw); go_simp; (try with_reducible rfl))
      simp only [Act.put, List.setIfInBounds_toArray, List.set_cons_zero, List.set_cons_succ]
      have hdr6 : Step Nobody W5 o4 W5.drew o4 := (Step.refl _ _ _).drew
      have hb7 := hb6.step hdr6 (fun h => h)
      have hbW7 := hbW6.step hdr6 (fun h => h)
      have hst7 := hst6.trans (hdr6.only X)
      have hbx7 : W5.drew.heap[w.heap.size]? = _ := hbx6
      have hsh7 : W5.drew.heap[g]? = _ := hsh6
      have hpage := page_any (w := W5.drew) (o := o4) (bv := .slice a4 n c4) ⟨A, B, C, pl⟩ hb7 (by show pl.length ≤ 480; have := hplH.out; omega) (by show B ≤ 1000000; omega) (by show C ≤ 1000000; omega)
      clear hb6 hbW6 hst6 hbx6 hsh6 hrg
      refine wpAnyN_one (i := 2) rfl (by kernel_rfl) ?_
      go_wp2_with fail
      refine hpage.mono ?_; rintro e W6 ⟨v6, o6, rfl, hs7, hn6⟩
      have hwl7 := lt_of_block hbx7
      have hgl7 := lt_of_block hsh7
      have hS6 : W6.rangeAt g 0 [.int .u64 (A.toNat : Int), .int .i64 (B : Int), .int .i64 (C : Int), .slice a4 n c4] := range_same hHeld (hs7.block g hgl7 (fun h => h))
      have hb8 := hb7.step hs7 (fun h => h)
      have hbW8 := hbW7.step hs7 (fun h => h)
      have hst8 := hst7.trans (hs7.only X)
      have hbx8 : W6.heap[w.heap.size]? = _ := (hs7.block w.heap.size hwl7 (fun h => h)).trans hbx7
      have hp6 := hn6.bytes
      have hne8 : o6 g = (X, 0) := (hs7.own g hgl7).trans hgo4
      clear hpage hn6 hs7 hb7 hbW7 hst7 hbx7 hsh7
      go_wp2_with fail
      refine ⟨fun _ => hS6, ?_⟩
      refine wpAnyN_one (i := 4) rfl (by kernel_rfl) ?_
      go_wp2_with fail
      refine (bequal_any hp6 hbW8).mono ?_; rintro e w' ⟨rfl, rfl⟩
      go_wp2_with fail
      refine ⟨fun _ => hS6, ?_⟩
      obtain ⟨hsr9, hsh9⟩ := run_store_agg (P := Try.prog) (ty := 139) (vs := [.int .u64 (A.toNat : Int), .int .i64 (B : Int), .int .i64 (C : Int), .slice a4 n c4]) hbx8 rfl (by kernel_rfl) rfl
      have hst9 := hst8.setCells w.heap.size 0 [.int .u64 (A.toNat : Int), .int .i64 (B : Int), .int .i64 (C : Int), .slice a4 n c4] (.inr (Nat.le_refl _))
      have hS9 : (W6.setCells w.heap.size 0 [.int .u64 (A.toNat : Int), .int .i64 (B : Int), .int .i64 (C : Int), .slice a4 n c4]).rangeAt g 0 [.int .u64 (A.toNat : Int), .int .i64 (B : Int), .int .i64 (C : Int), .slice a4 n c4] :=
        range_same hS6 (heap_setCells_other _ _ _ _ _ (by omega))
      refine wpAnyN_one (i := 5) rfl (by kernel_rfl) ?_
      refine lit_store hsr9 ?_
      refine wpList_nil ?_
      refine ⟨fun _ => hS9, ?_⟩
      have hb9 : Bytes (W6.setCells w.heap.size 0 [.int .u64 (A.toNat : Int), .int .i64 (B : Int), .int .i64 (C : Int), .slice a4 n c4]) (fun k => if k = w.heap.size then (0, 0) else o6 k) (.slice a4 n c4) pl := by
        rcases hb8 with h | ⟨b', off', cap', hv, h1, h2, h3, h4, h5⟩
        · exact .inl h
        · have hbne : b' ≠ w.heap.size := hbne' b' off' (by simp only [Value.slice.injEq] at hv; exact hv.1)
          refine .inr ⟨b', off', cap', hv, h1, h2, by simp only [if_neg hbne]; exact h3, by rw [size_setCells]; exact h4, range_same h5 (heap_setCells_other _ _ _ _ _ hbne)⟩
      refine wpAnyN_one (i := 6) rfl (by kernel_rfl) ?_
      go_wp2_with fail
      refine ⟨fun _ => hS9, ?_⟩
      refine wpAnyN_done (by kernel_rfl) ?_ _
      go_wp2_with fail
      refine bodyPost_ret (results_row_tmp rfl _ _ w.heap.size 139 _ (0, 0) _ rfl hsh9 Try.underlying139 rfl (by kernel_rfl)) rfl ?_
      rw [hEH.out]
      have hst10 := hst9.nobody hXf
      refine ⟨_, (fun k => if k = w.heap.size then (0, 0) else o6 k), rfl, ⟨hst10.os, hst10.tape, hst10.output, hst10.size, fun k hk => by simp only [if_neg (show k ≠ w.heap.size by omega)]; exact hst10.own k hk, hst10.block⟩, .slice a4 n c4, rfl, hb9⟩
end Go.Proofs.YtfgggkheadfiaaaR
