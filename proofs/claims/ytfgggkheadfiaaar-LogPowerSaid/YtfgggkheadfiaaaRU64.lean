/- Numbers of 64 bits as BitVec 64: the machine's operations on them. Over any program. -/
import Derived.Test.YtfgggkheadfiaaaRLaw07f
namespace Go.Proofs.YtfgggkheadfiaaaR
open Go Go.RowKit

def u64 (x : BitVec 64) : Value := .int .u64 (x.toNat : Int)
theorem ofInt64 (x : BitVec 64) : BitVec.ofInt 64 (x.toNat : Int) = x := by simp
theorem wrap64 (x : BitVec 64) : IntKind.u64.wrap (x.toNat : Int) = (x.toNat : Int) := by
  have := x.isLt
  simp [IntKind.wrap, IntKind.bits, IntKind.signed]; omega
section
variable {P : Program} (w : World) (x y : BitVec 64) (t : TypeId)
theorem run_xor64 : (binOp .xor t (.int .u64 (x.toNat : Int)) (.int .u64 (y.toNat : Int))).run P w = .ok (.int .u64 ((x ^^^ y).toNat : Int)) w := by
  simp only [binOp, Op.intBits, ne_eq, not_true_eq_false, if_false]
  show Sem.run P (pure (Value.int .u64 (IntKind.u64.wrap (((BitVec.ofInt 64 (x.toNat : Int)) ^^^ (BitVec.ofInt 64 (y.toNat : Int))).toNat : Int)))) w = _
  rw [ofInt64, ofInt64, wrap64]; rfl
theorem run_and64 : (binOp .and t (.int .u64 (x.toNat : Int)) (.int .u64 (y.toNat : Int))).run P w = .ok (.int .u64 ((x &&& y).toNat : Int)) w := by
  simp only [binOp, Op.intBits, ne_eq, not_true_eq_false, if_false]
  show Sem.run P (pure (Value.int .u64 (IntKind.u64.wrap (((BitVec.ofInt 64 (x.toNat : Int)) &&& (BitVec.ofInt 64 (y.toNat : Int))).toNat : Int)))) w = _
  rw [ofInt64, ofInt64, wrap64]; rfl
theorem run_or64 : (binOp .or t (.int .u64 (x.toNat : Int)) (.int .u64 (y.toNat : Int))).run P w = .ok (.int .u64 ((x ||| y).toNat : Int)) w := by
  simp only [binOp, Op.intBits, ne_eq, not_true_eq_false, if_false]
  show Sem.run P (pure (Value.int .u64 (IntKind.u64.wrap (((BitVec.ofInt 64 (x.toNat : Int)) ||| (BitVec.ofInt 64 (y.toNat : Int))).toNat : Int)))) w = _
  rw [ofInt64, ofInt64, wrap64]; rfl
theorem run_shr64 (k : IntKind) (n : Nat) (hn : n ≤ 64) : (binOp .shr t (.int .u64 (x.toNat : Int)) (.int k (n : Int))).run P w = .ok (.int .u64 ((x >>> n).toNat : Int)) w := by
  simp only [binOp, Op.shift]
  rw [if_neg (by omega)]
  have hm : min ((n : Int).toNat) IntKind.u64.bits = n := by simp [IntKind.bits]; omega
  simp only [hm]
  show Sem.run P (pure (Value.int .u64 ((x.toNat : Int).fdiv (2 ^ n)))) w = _
  have : (x.toNat : Int).fdiv (2 ^ n) = ((x >>> n).toNat : Int) := by
    rw [BitVec.toNat_ushiftRight, Nat.shiftRight_eq_div_pow, Int.fdiv_eq_ediv_of_nonneg _ (Int.pow_nonneg (by omega))]
    simp
  rw [this]; rfl
theorem run_shl64 (k : IntKind) (n : Nat) (hn : n ≤ 64) : (binOp .shl t (.int .u64 (x.toNat : Int)) (.int k (n : Int))).run P w = .ok (.int .u64 ((x <<< n).toNat : Int)) w := by
  simp only [binOp, Op.shift]
  rw [if_neg (by omega)]
  have hm : min ((n : Int).toNat) IntKind.u64.bits = n := by simp [IntKind.bits]; omega
  simp only [hm]
  show Sem.run P (pure (Value.int .u64 (IntKind.u64.wrap ((x.toNat : Int) * 2 ^ n)))) w = _
  have : IntKind.u64.wrap ((x.toNat : Int) * 2 ^ n) = ((x <<< n).toNat : Int) := by
    rw [BitVec.toNat_shiftLeft, Nat.shiftLeft_eq]
    simp [IntKind.wrap, IntKind.bits, IntKind.signed]
  rw [this]; rfl
theorem run_neg64 : (Op.unary .neg (.int .u64 (x.toNat : Int))).run P w = .ok (.int .u64 ((-x).toNat : Int)) w := by
  have : IntKind.u64.wrap (0 - (x.toNat : Int)) = ((-x).toNat : Int) := by
    have := x.isLt
    rw [BitVec.toNat_neg]
    simp only [IntKind.wrap, IntKind.bits, IntKind.signed]
    simp
    omega
  show Sem.run P (pure (Value.int .u64 (IntKind.u64.wrap (0 - (x.toNat : Int))))) w = _
  rw [this]; rfl
theorem run_not64 : (Op.unary .xor (.int .u64 (x.toNat : Int))).run P w = .ok (.int .u64 ((~~~x).toNat : Int)) w := by
  have hm : BitVec.ofInt 64 IntKind.u64.max = BitVec.allOnes 64 := by decide
  show Sem.run P (pure (Value.int .u64 (IntKind.u64.wrap (((BitVec.ofInt 64 IntKind.u64.max) ^^^ (BitVec.ofInt 64 (x.toNat : Int))).toNat : Int)))) w = _
  rw [ofInt64, wrap64, hm]
  have : BitVec.allOnes 64 ^^^ x = ~~~x := BitVec.allOnes_xor
  rw [this]; rfl
theorem run_add64 : (binOp .add t (.int .u64 (x.toNat : Int)) (.int .u64 (y.toNat : Int))).run P w = .ok (.int .u64 ((x + y).toNat : Int)) w := by
  have : IntKind.u64.wrap ((x.toNat : Int) + (y.toNat : Int)) = ((x + y).toNat : Int) := by
    rw [BitVec.toNat_add]
    simp only [IntKind.wrap, IntKind.bits, IntKind.signed]
    simp
  show Sem.run P (pure (Value.int .u64 (IntKind.u64.wrap ((x.toNat : Int) + (y.toNat : Int))))) w = _
  rw [this]; rfl
end
end Go.Proofs.YtfgggkheadfiaaaR
