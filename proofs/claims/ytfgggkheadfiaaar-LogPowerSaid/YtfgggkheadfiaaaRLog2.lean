/- Contracts: wire.Uint, log.small, log.number. -/
import Derived.Test.YtfgggkheadfiaaaRLog1
namespace Go.Proofs.YtfgggkheadfiaaaR
open Go Go.RowKit
attribute [local go_sem ↓] Go.wp_at_zero Go.wp_at_succ

theorem wuint_any {w : World} {o : Own} {v : Value} {l : List UInt8} (h : Bytes w o v l) (hll : l.length ≤ 1000000) (x : BitVec 64) :
    Calls Try.prog 104 #[v, .int .u64 (x.toNat : Int)] w (Ret Nobody w o fun v w' o' => NewB w w' o' v (l ++ be 8 x)) := by
  have hc := wnumber_any h hll x 8 (by omega)
  go_enter Try.func104, Try.ntmps104
  go_wp2_with fail
  refine hc.mono ?_; rintro e w1 ⟨v1, o1, rfl, hs, hn⟩
  go_wp2_with fail
  go_ret
  exact ⟨_, o1, rfl, hs, hn⟩

/-- The number that bytes say, the highest first (what falls out above is gone). -/
def num (l : List UInt8) : BitVec 64 := l.foldl (fun n c => (n <<< 8) ||| BitVec.ofNat 64 c.toNat) 0
theorem num_snoc (l : List UInt8) (c : UInt8) : num (l ++ [c]) = (num l <<< 8) ||| BitVec.ofNat 64 c.toNat := by simp [num]
theorem ofU8 (c : UInt8) : ((BitVec.ofNat 64 c.toNat).toNat : Int) = (c.toNat : Int) := by
  have := c.toNat_lt; simp
theorem bits_or (x y : BitVec 64) : bits .or .u64 (x.toNat : Int) (y.toNat : Int) = ((x ||| y).toNat : Int) := by
  have hb : ∀ x y : BitVec 64, bits .or .u64 (x.toNat : Int) (y.toNat : Int) = IntKind.u64.wrap (((BitVec.ofInt 64 (x.toNat : Int)) ||| (BitVec.ofInt 64 (y.toNat : Int))).toNat : Int) := fun x y => rfl
  rw [hb, ofInt64, ofInt64, wrap64]
theorem wrap_shl8 (x : BitVec 64) : IntKind.u64.wrap ((x.toNat : Int) * 256) = ((x <<< 8).toNat : Int) := by
  rw [BitVec.toNat_shiftLeft, Nat.shiftLeft_eq]
  simp [IntKind.wrap, IntKind.bits, IntKind.signed]
theorem wrap_u8 (c : UInt8) : IntKind.u64.wrap (c.toNat : Int) = ((BitVec.ofNat 64 c.toNat).toNat : Int) := by
  have := wrap64 (BitVec.ofNat 64 c.toNat)
  rw [ofU8] at this; rw [this, ofU8]
set_option maxRecDepth 100000 in
set_option maxHeartbeats 1600000 in
theorem lnumber_any {w : World} {o : Own} {v : Value} {l : List UInt8} (h : Bytes w o v l) (hll : l.length ≤ 1000000) :
    Calls Try.prog 77 #[v] w fun e w' => e = .returned (.int .u64 ((num l).toNat : Int)) ∧ w = w' := by
  obtain ⟨a, c, hv⟩ := slc_form h
  have hcell : ∀ i (hi : i < l.length), ∃ b off, a = some ⟨b, off, none⟩ ∧ w.cell? ⟨b, off + i, none⟩ = some (.int .u8 ((l[i].toNat : Int))) := by
    intro i hi
    rcases h.cases with ⟨_, rfl⟩ | ⟨b, off, cap, hv2, hl, hm, ho, hb, hr⟩
    · simp at hi
    · rw [hv] at hv2
      simp only [Value.slice.injEq] at hv2
      refine ⟨b, off, hv2.1, hr i _ ?_⟩
      rw [get_bvs, List.getElem?_eq_getElem hi]; rfl
  subst hv
  clear h
  go_enter Try.func77, Try.ntmps77
  go_wp2_with fail
  go_loop [3, 8] (fun n i => ∃ k : Nat, k ≤ l.length ∧ i = .int .i64 k ∧ n = .int .u64 ((num (l.take k)).toNat : Int)) (fun _ i => l.length - (intOf i).toNat)
  case atStart => exact ⟨0, Nat.zero_le _, rfl, rfl⟩
  case round =>
    obtain ⟨k, hk, rfl, rfl⟩ := hrel
    by_cases hlt : k < l.length
    · obtain ⟨b, off, rfl, hc⟩ := hcell k hlt
      have hsn : num (l.take (k + 1)) = (num (l.take k) <<< 8) ||| BitVec.ofNat 64 l[k].toNat := by
        rw [List.take_succ_eq_append_getElem hlt, num_snoc]
      have hsnH := hidden hsn
      clear hsn hcell
      generalize hcc : l[k] = cc at *
      clear hcc
      go_wp2_with fail
      go_round
      case rel => exact ⟨k + 1, hlt, by go_num, by rw [hsnH.out, ← bits_or, ← wrap_shl8, ← wrap_u8]⟩
      case measure => simp [intOf]; omega
    · have hk' : k = l.length := by omega
      subst hk'
      rw [List.take_length]
      go_wp2_with fail
      go_ret
      exact ⟨rfl, rfl⟩
end Go.Proofs.YtfgggkheadfiaaaR
