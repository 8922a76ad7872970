/- Contract: crc.Sum. -/
import Derived.Test.YtfgggkheadfiaaaRLog2
namespace Go.Proofs.YtfgggkheadfiaaaR
open Go Go.RowKit
attribute [local go_sem ↓] Go.wp_at_zero Go.wp_at_succ

def crcOut : BitVec 64 := 0xc96c5795d7870f42#64
def crcStep (n : BitVec 64) : BitVec 64 := (n >>> 1) ^^^ (crcOut &&& -(n &&& 1#64))
def crcSteps (n : BitVec 64) : Nat → BitVec 64
  | 0 => n
  | k + 1 => crcStep (crcSteps n k)
def crcByte (n : BitVec 64) (c : UInt8) : BitVec 64 := crcSteps (n ^^^ BitVec.ofNat 64 c.toNat) 8
def crcRun (l : List UInt8) : BitVec 64 := l.foldl crcByte (BitVec.allOnes 64)
def crcSum (l : List UInt8) : BitVec 64 := ~~~ crcRun l
theorem crcRun_snoc (l : List UInt8) (c : UInt8) : crcRun (l ++ [c]) = crcByte (crcRun l) c := by simp [crcRun]

theorem bits_xor (x y : BitVec 64) : bits .xor .u64 (x.toNat : Int) (y.toNat : Int) = ((x ^^^ y).toNat : Int) := by
  have hb : ∀ x y : BitVec 64, bits .xor .u64 (x.toNat : Int) (y.toNat : Int) = IntKind.u64.wrap (((BitVec.ofInt 64 (x.toNat : Int)) ^^^ (BitVec.ofInt 64 (y.toNat : Int))).toNat : Int) := fun x y => rfl
  rw [hb, ofInt64, ofInt64, wrap64]
theorem bits_and (x y : BitVec 64) : bits .and .u64 (x.toNat : Int) (y.toNat : Int) = ((x &&& y).toNat : Int) := by
  have hb : ∀ x y : BitVec 64, bits .and .u64 (x.toNat : Int) (y.toNat : Int) = IntKind.u64.wrap (((BitVec.ofInt 64 (x.toNat : Int)) &&& (BitVec.ofInt 64 (y.toNat : Int))).toNat : Int) := fun x y => rfl
  rw [hb, ofInt64, ofInt64, wrap64]
theorem wrap_neg (x : BitVec 64) : IntKind.u64.wrap (-(x.toNat : Int)) = ((-x).toNat : Int) := by
  have := x.isLt
  rw [BitVec.toNat_neg]
  simp only [IntKind.wrap, IntKind.bits, IntKind.signed]
  simp
  omega
theorem crcNot_int (y : BitVec 64) : bits .xor .u64 IntKind.u64.max (y.toNat : Int) = ((~~~y).toNat : Int) := by
  have h1 := bits_xor (BitVec.allOnes 64) y
  have h2 : ((BitVec.allOnes 64).toNat : Int) = IntKind.u64.max := by decide
  rw [h2, BitVec.allOnes_xor] at h1
  exact h1
theorem crcStep_int (y : BitVec 64) : bits .xor .u64 ((y.toNat : Int) / 2) (bits .and .u64 14514072000185962306 (IntKind.u64.wrap (-bits .and .u64 (y.toNat : Int) 1))) = ((crcStep y).toNat : Int) := by
  have h1 : bits .and .u64 (y.toNat : Int) 1 = ((y &&& 1#64).toNat : Int) := bits_and y 1#64
  have h2 : (y.toNat : Int) / (2 : Int) = ((y >>> 1).toNat : Int) := by
    rw [BitVec.toNat_ushiftRight, Nat.shiftRight_eq_div_pow]; simp
  rw [h1, wrap_neg, h2]
  have h3 := bits_and crcOut (-(y &&& 1#64))
  have h4 : ((crcOut).toNat : Int) = 14514072000185962306 := by decide
  rw [h4] at h3
  rw [h3, bits_xor]; rfl
set_option maxRecDepth 100000 in
set_option maxHeartbeats 1600000 in
theorem crc_any {w : World} {o : Own} {v : Value} {l : List UInt8} (h : Bytes w o v l) (hll : l.length ≤ 1000000) :
    Calls Try.prog 120 #[v] w fun e w' => e = .returned (.int .u64 ((crcSum l).toNat : Int)) ∧ w = w' := by
  obtain ⟨a, c, hv⟩ := slc_form h
  have hcell : ∀ i (hi : i < l.length), ∃ b off, a = some ⟨b, off, none⟩ ∧ w.cell? ⟨b, off + i, none⟩ = some (.int .u8 ((l[i].toNat : Int))) := by
    intro i hi
    rcases h.cases with ⟨_, rfl⟩ | ⟨b, off, cap, hv2, hl, hm, ho, hb, hr⟩
    · simp at hi
    · rw [hv] at hv2
      simp only [Value.slice.injEq] at hv2
      refine ⟨b, off, hv2.1, hr i _ ?_⟩
      rw [get_bvs, List.getElem?_eq_getElem hi]; rfl
  subst hv
  clear h
  go_enter Try.func120, Try.ntmps120
  go_wp2_with fail
  go_loop [3, 9] (fun n i => ∃ k : Nat, k ≤ l.length ∧ i = .int .i64 k ∧ n = .int .u64 ((crcRun (l.take k)).toNat : Int)) (fun _ i => l.length - (intOf i).toNat)
  case atStart => exact ⟨0, Nat.zero_le _, rfl, rfl⟩
  case round =>
    obtain ⟨k, hk, rfl, rfl⟩ := hrel
    by_cases hlt : k < l.length
    · obtain ⟨b, off, rfl, hc⟩ := hcell k hlt
      have hsn : crcRun (l.take (k + 1)) = crcSteps (crcRun (l.take k) ^^^ BitVec.ofNat 64 l[k].toNat) 8 := by
        rw [List.take_succ_eq_append_getElem hlt, crcRun_snoc]; rfl
      have hsnH := hidden hsn
      clear hsn hcell
      generalize hcc : l[k] = cc at *
      clear hcc
      generalize hcr : crcRun (l.take k) = m0 at *
      clear hcr
      go_wp2_with fail
      go_loop [3, 17] (fun n i => ∃ j : Nat, j ≤ 8 ∧ i = .int .i64 j ∧ n = .int .u64 ((crcSteps (m0 ^^^ BitVec.ofNat 64 cc.toNat) j).toNat : Int)) (fun _ i => 8 - (intOf i).toNat)
      case atStart => exact ⟨0, by omega, rfl, by rw [wrap_u8, bits_xor]; rfl⟩
      case round =>
        obtain ⟨j, hj, rfl, rfl⟩ := hrel
        by_cases hlt2 : j < 8
        · have hst : crcSteps (m0 ^^^ BitVec.ofNat 64 cc.toNat) (j + 1) = crcStep (crcSteps (m0 ^^^ BitVec.ofNat 64 cc.toNat) j) := rfl
          have hstH := hidden hst
          clear hst
          generalize crcSteps (m0 ^^^ BitVec.ofNat 64 cc.toNat) j = y at *
          go_wp2_with fail
          go_round
          case rel => exact ⟨j + 1, hlt2, by go_num, by rw [hstH.out, ← crcStep_int]⟩
          case measure => simp [intOf]; omega
        · have : j = 8 := by omega
          subst this
          go_wp2_with fail
          go_round
          case rel => exact ⟨k + 1, hlt, by go_num, by rw [hsnH.out]⟩
          case measure => simp [intOf]; omega
    · have hk' : k = l.length := by omega
      subst hk'
      rw [List.take_length]
      go_wp2_with fail
      go_ret
      refine ⟨?_, rfl⟩
      show Ending.returned (Value.int .u64 (bits .xor .u64 IntKind.u64.max ((crcRun l).toNat : Int))) = _
      rw [crcNot_int]; rfl
end Go.Proofs.YtfgggkheadfiaaaR
