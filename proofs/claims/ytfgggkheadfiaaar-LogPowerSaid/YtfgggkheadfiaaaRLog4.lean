/- Contracts: log.small, bits.ReverseBytes64, slices.Concat of bytes. -/
import Derived.Test.YtfgggkheadfiaaaRLogP1
import Derived.Test.YtfgggkheadfiaaaRMid
import Derived.Lib.AppendZerosOnto
namespace Go.Proofs.YtfgggkheadfiaaaR
open Go Go.RowKit
attribute [local go_sem ↓] Go.wp_at_zero Go.wp_at_succ

def m3 : BitVec 64 := 71777214294589695#64
def m4 : BitVec 64 := 281470681808895#64
def rev1 (x : BitVec 64) : BitVec 64 := ((x >>> 8) &&& m3) ||| ((x &&& m3) <<< 8)
def rev2 (x : BitVec 64) : BitVec 64 := ((x >>> 16) &&& m4) ||| ((x &&& m4) <<< 16)
def rev4 (x : BitVec 64) : BitVec 64 := (x >>> 32) ||| (x <<< 32)
def rev64 (x : BitVec 64) : BitVec 64 := rev4 (rev2 (rev1 x))
theorem shr_int8 (y : BitVec 64) : (y.toNat : Int) / (256 : Int) = ((y >>> 8).toNat : Int) := by rw [BitVec.toNat_ushiftRight, Nat.shiftRight_eq_div_pow]; simp
theorem shr_int16 (y : BitVec 64) : (y.toNat : Int) / (65536 : Int) = ((y >>> 16).toNat : Int) := by rw [BitVec.toNat_ushiftRight, Nat.shiftRight_eq_div_pow]; simp
theorem shr_int32 (y : BitVec 64) : (y.toNat : Int) / (4294967296 : Int) = ((y >>> 32).toNat : Int) := by rw [BitVec.toNat_ushiftRight, Nat.shiftRight_eq_div_pow]; simp
theorem wrap_shl16 (x : BitVec 64) : IntKind.u64.wrap ((x.toNat : Int) * 65536) = ((x <<< 16).toNat : Int) := by
  rw [BitVec.toNat_shiftLeft, Nat.shiftLeft_eq]
  simp [IntKind.wrap, IntKind.bits, IntKind.signed]
theorem wrap_shl32 (x : BitVec 64) : IntKind.u64.wrap ((x.toNat : Int) * 4294967296) = ((x <<< 32).toNat : Int) := by
  rw [BitVec.toNat_shiftLeft, Nat.shiftLeft_eq]
  simp [IntKind.wrap, IntKind.bits, IntKind.signed]
theorem and_m3 (x : BitVec 64) : bits .and .u64 (x.toNat : Int) 71777214294589695 = ((x &&& m3).toNat : Int) := bits_and x m3
theorem and_m4 (x : BitVec 64) : bits .and .u64 (x.toNat : Int) 281470681808895 = ((x &&& m4).toNat : Int) := bits_and x m4
theorem rev1_int (x : BitVec 64) : bits .or .u64 (bits .and .u64 ((x.toNat : Int) / (256 : Int)) 71777214294589695) (IntKind.u64.wrap (bits .and .u64 (x.toNat : Int) 71777214294589695 * 256)) = ((rev1 x).toNat : Int) := by
  rw [shr_int8, and_m3, and_m3, wrap_shl8, bits_or]; rfl
theorem rev2_int (x : BitVec 64) : bits .or .u64 (bits .and .u64 ((x.toNat : Int) / (65536 : Int)) 281470681808895) (IntKind.u64.wrap (bits .and .u64 (x.toNat : Int) 281470681808895 * 65536)) = ((rev2 x).toNat : Int) := by
  rw [shr_int16, and_m4, and_m4, wrap_shl16, bits_or]; rfl
theorem rev4_int (x : BitVec 64) : bits .or .u64 ((x.toNat : Int) / (4294967296 : Int)) (IntKind.u64.wrap ((x.toNat : Int) * 4294967296)) = ((rev4 x).toNat : Int) := by
  rw [shr_int32, wrap_shl32, bits_or]; rfl
set_option maxRecDepth 100000 in
set_option maxHeartbeats 800000 in
theorem rev64_any (w : World) (x : BitVec 64) : Calls Try.prog 119 #[.int .u64 (x.toNat : Int)] w fun e w' => e = .returned (.int .u64 ((rev64 x).toNat : Int)) ∧ w = w' := by
  go_enter Try.func119, Try.ntmps119
  go_wp2_with fail
  rw [rev1_int, rev2_int, rev4_int]
  go_ret
  exact ⟨rfl, rfl⟩

theorem rev64_bit (x : BitVec 64) : ∀ i : Nat, i < 64 → (rev64 x).getLsbD i = x.getLsbD (8 * (7 - i / 8) + i % 8)
  | 0, _ => by show _ = x.getLsbD 56; simp [rev64, rev4, rev2, rev1, m3, m4]
  | 1, _ => by show _ = x.getLsbD 57; simp [rev64, rev4, rev2, rev1, m3, m4]
  | 2, _ => by show _ = x.getLsbD 58; simp [rev64, rev4, rev2, rev1, m3, m4]
  | 3, _ => by show _ = x.getLsbD 59; simp [rev64, rev4, rev2, rev1, m3, m4]
  | 4, _ => by show _ = x.getLsbD 60; simp [rev64, rev4, rev2, rev1, m3, m4]
  | 5, _ => by show _ = x.getLsbD 61; simp [rev64, rev4, rev2, rev1, m3, m4]
  | 6, _ => by show _ = x.getLsbD 62; simp [rev64, rev4, rev2, rev1, m3, m4]
  | 7, _ => by show _ = x.getLsbD 63; simp [rev64, rev4, rev2, rev1, m3, m4]
  | 8, _ => by show _ = x.getLsbD 48; simp [rev64, rev4, rev2, rev1, m3, m4]
  | 9, _ => by show _ = x.getLsbD 49; simp [rev64, rev4, rev2, rev1, m3, m4]
  | 10, _ => by show _ = x.getLsbD 50; simp [rev64, rev4, rev2, rev1, m3, m4]
  | 11, _ => by show _ = x.getLsbD 51; simp [rev64, rev4, rev2, rev1, m3, m4]
  | 12, _ => by show _ = x.getLsbD 52; simp [rev64, rev4, rev2, rev1, m3, m4]
  | 13, _ => by show _ = x.getLsbD 53; simp [rev64, rev4, rev2, rev1, m3, m4]
  | 14, _ => by show _ = x.getLsbD 54; simp [rev64, rev4, rev2, rev1, m3, m4]
  | 15, _ => by show _ = x.getLsbD 55; simp [rev64, rev4, rev2, rev1, m3, m4]
  | 16, _ => by show _ = x.getLsbD 40; simp [rev64, rev4, rev2, rev1, m3, m4]
  | 17, _ => by show _ = x.getLsbD 41; simp [rev64, rev4, rev2, rev1, m3, m4]
  | 18, _ => by show _ = x.getLsbD 42; simp [rev64, rev4, rev2, rev1, m3, m4]
  | 19, _ => by show _ = x.getLsbD 43; simp [rev64, rev4, rev2, rev1, m3, m4]
  | 20, _ => by show _ = x.getLsbD 44; simp [rev64, rev4, rev2, rev1, m3, m4]
  | 21, _ => by show _ = x.getLsbD 45; simp [rev64, rev4, rev2, rev1, m3, m4]
  | 22, _ => by show _ = x.getLsbD 46; simp [rev64, rev4, rev2, rev1, m3, m4]
  | 23, _ => by show _ = x.getLsbD 47; simp [rev64, rev4, rev2, rev1, m3, m4]
  | 24, _ => by show _ = x.getLsbD 32; simp [rev64, rev4, rev2, rev1, m3, m4]
  | 25, _ => by show _ = x.getLsbD 33; simp [rev64, rev4, rev2, rev1, m3, m4]
  | 26, _ => by show _ = x.getLsbD 34; simp [rev64, rev4, rev2, rev1, m3, m4]
  | 27, _ => by show _ = x.getLsbD 35; simp [rev64, rev4, rev2, rev1, m3, m4]
  | 28, _ => by show _ = x.getLsbD 36; simp [rev64, rev4, rev2, rev1, m3, m4]
  | 29, _ => by show _ = x.getLsbD 37; simp [rev64, rev4, rev2, rev1, m3, m4]
  | 30, _ => by show _ = x.getLsbD 38; simp [rev64, rev4, rev2, rev1, m3, m4]
  | 31, _ => by show _ = x.getLsbD 39; simp [rev64, rev4, rev2, rev1, m3, m4]
  | 32, _ => by show _ = x.getLsbD 24; simp [rev64, rev4, rev2, rev1, m3, m4]
  | 33, _ => by show _ = x.getLsbD 25; simp [rev64, rev4, rev2, rev1, m3, m4]
  | 34, _ => by show _ = x.getLsbD 26; simp [rev64, rev4, rev2, rev1, m3, m4]
  | 35, _ => by show _ = x.getLsbD 27; simp [rev64, rev4, rev2, rev1, m3, m4]
  | 36, _ => by show _ = x.getLsbD 28; simp [rev64, rev4, rev2, rev1, m3, m4]
  | 37, _ => by show _ = x.getLsbD 29; simp [rev64, rev4, rev2, rev1, m3, m4]
  | 38, _ => by show _ = x.getLsbD 30; simp [rev64, rev4, rev2, rev1, m3, m4]
  | 39, _ => by show _ = x.getLsbD 31; simp [rev64, rev4, rev2, rev1, m3, m4]
  | 40, _ => by show _ = x.getLsbD 16; simp [rev64, rev4, rev2, rev1, m3, m4]
  | 41, _ => by show _ = x.getLsbD 17; simp [rev64, rev4, rev2, rev1, m3, m4]
  | 42, _ => by show _ = x.getLsbD 18; simp [rev64, rev4, rev2, rev1, m3, m4]
  | 43, _ => by show _ = x.getLsbD 19; simp [rev64, rev4, rev2, rev1, m3, m4]
  | 44, _ => by show _ = x.getLsbD 20; simp [rev64, rev4, rev2, rev1, m3, m4]
  | 45, _ => by show _ = x.getLsbD 21; simp [rev64, rev4, rev2, rev1, m3, m4]
  | 46, _ => by show _ = x.getLsbD 22; simp [rev64, rev4, rev2, rev1, m3, m4]
  | 47, _ => by show _ = x.getLsbD 23; simp [rev64, rev4, rev2, rev1, m3, m4]
  | 48, _ => by show _ = x.getLsbD 8; simp [rev64, rev4, rev2, rev1, m3, m4]
  | 49, _ => by show _ = x.getLsbD 9; simp [rev64, rev4, rev2, rev1, m3, m4]
  | 50, _ => by show _ = x.getLsbD 10; simp [rev64, rev4, rev2, rev1, m3, m4]
  | 51, _ => by show _ = x.getLsbD 11; simp [rev64, rev4, rev2, rev1, m3, m4]
  | 52, _ => by show _ = x.getLsbD 12; simp [rev64, rev4, rev2, rev1, m3, m4]
  | 53, _ => by show _ = x.getLsbD 13; simp [rev64, rev4, rev2, rev1, m3, m4]
  | 54, _ => by show _ = x.getLsbD 14; simp [rev64, rev4, rev2, rev1, m3, m4]
  | 55, _ => by show _ = x.getLsbD 15; simp [rev64, rev4, rev2, rev1, m3, m4]
  | 56, _ => by show _ = x.getLsbD 0; simp [rev64, rev4, rev2, rev1, m3, m4]
  | 57, _ => by show _ = x.getLsbD 1; simp [rev64, rev4, rev2, rev1, m3, m4]
  | 58, _ => by show _ = x.getLsbD 2; simp [rev64, rev4, rev2, rev1, m3, m4]
  | 59, _ => by show _ = x.getLsbD 3; simp [rev64, rev4, rev2, rev1, m3, m4]
  | 60, _ => by show _ = x.getLsbD 4; simp [rev64, rev4, rev2, rev1, m3, m4]
  | 61, _ => by show _ = x.getLsbD 5; simp [rev64, rev4, rev2, rev1, m3, m4]
  | 62, _ => by show _ = x.getLsbD 6; simp [rev64, rev4, rev2, rev1, m3, m4]
  | 63, _ => by show _ = x.getLsbD 7; simp [rev64, rev4, rev2, rev1, m3, m4]
  | n + 64, h => by omega
theorem beB_bit (x : BitVec 64) (k j : Nat) (hj : j < 8) : (beB x k).toNat.testBit j = x.getLsbD (8 * k + j) := by
  rw [beB, UInt8.toNat_ofNat']
  rw [Nat.testBit_mod_two_pow]
  simp only [hj, decide_true, Bool.true_and]
  rw [BitVec.toNat_ushiftRight, Nat.testBit_shiftRight]
  rfl
theorem beB_rev (x : BitVec 64) (k : Nat) (hk : k < 8) : beB (rev64 x) k = beB x (7 - k) := by
  apply UInt8.toNat_inj.1
  apply Nat.eq_of_testBit_eq
  intro j
  by_cases hj : j < 8
  · rw [beB_bit _ _ _ hj, beB_bit _ _ _ hj, rev64_bit _ _ (by omega)]
    congr 1
    omega
  · have h1 : (beB (rev64 x) k).toNat < 2 ^ j := Nat.lt_of_lt_of_le (UInt8.toNat_lt _) (Nat.pow_le_pow_right (by omega) (show 8 ≤ j by omega))
    have h2 : (beB x (7 - k)).toNat < 2 ^ j := Nat.lt_of_lt_of_le (UInt8.toNat_lt _) (Nat.pow_le_pow_right (by omega) (show 8 ≤ j by omega))
    rw [Nat.testBit_lt_two_pow h1, Nat.testBit_lt_two_pow h2]
theorem be_rev (x : BitVec 64) : be 8 (rev64 x) = (be 8 x).reverse := by
  have h : ∀ y : BitVec 64, be 8 y = [beB y 7, beB y 6, beB y 5, beB y 4, beB y 3, beB y 2, beB y 1, beB y 0] := fun y => rfl
  rw [h, h, beB_rev x 7 (by omega), beB_rev x 6 (by omega), beB_rev x 5 (by omega), beB_rev x 4 (by omega), beB_rev x 3 (by omega), beB_rev x 2 (by omega), beB_rev x 1 (by omega), beB_rev x 0 (by omega)]
  rfl
end Go.Proofs.YtfgggkheadfiaaaR
