/- Plain laws: numbers of bytes, the highest first; what a leaf's own page says. No program in sight. -/
import Derived.Test.YtfgggkheadfiaaaRLogM
namespace Go.Proofs.YtfgggkheadfiaaaR
open Go Go.RowKit

def numN (l : List UInt8) : Nat := l.foldl (fun n c => n * 256 + c.toNat) 0
theorem numN_foldl (l : List UInt8) : ∀ n : Nat, l.foldl (fun n c => n * 256 + c.toNat) n = n * 256 ^ l.length + numN l := by
  unfold numN
  induction l with
  | nil => intro n; simp
  | cons c r ih =>
    intro n
    simp only [List.foldl_cons, List.length_cons]
    rw [ih (n * 256 + c.toNat), ih (0 * 256 + c.toNat), Nat.pow_succ]
    rw [Nat.add_mul, Nat.zero_mul, Nat.zero_add, Nat.mul_assoc, Nat.mul_comm 256, Nat.add_assoc]
theorem numN_cons (c : UInt8) (l : List UInt8) : numN (c :: l) = c.toNat * 256 ^ l.length + numN l := by
  have := numN_foldl l (0 * 256 + c.toNat)
  unfold numN at this ⊢
  simp only [List.foldl_cons]
  rw [this]; simp
theorem numN_append (a b : List UInt8) : numN (a ++ b) = numN a * 256 ^ b.length + numN b := by
  have := numN_foldl b (numN a)
  rw [← this]; unfold numN; rw [List.foldl_append]
theorem numN_lt (l : List UInt8) : numN l < 256 ^ l.length := by
  induction l with
  | nil => simp [numN]
  | cons c r ih =>
    rw [numN_cons, List.length_cons, Nat.pow_succ]
    have h1 := c.toNat_lt
    have h2 : c.toNat * 256 ^ r.length ≤ 255 * 256 ^ r.length := Nat.mul_le_mul_right _ (by omega)
    omega
theorem numN_inj : ∀ {a b : List UInt8}, a.length = b.length → numN a = numN b → a = b
  | [], [], _, _ => rfl
  | [], _ :: _, h, _ => by simp at h
  | _ :: _, [], h, _ => by simp at h
  | x :: a, y :: b, h, e => by
    have hl : a.length = b.length := by simpa using h
    rw [numN_cons, numN_cons, hl] at e
    have h1 := numN_lt a
    have h2 := numN_lt b
    rw [hl] at h1
    have hp : 0 < 256 ^ b.length := Nat.pow_pos (by omega)
    have e1 : x.toNat = y.toNat := by
      have := congrArg (fun t => t / 256 ^ b.length) e
      rw [Nat.add_comm, Nat.add_mul_div_right _ _ hp, Nat.div_eq_of_lt h1, Nat.add_comm, Nat.add_comm (y.toNat * _), Nat.add_mul_div_right _ _ hp, Nat.div_eq_of_lt h2] at this
      omega
    have e2 : numN a = numN b := by rw [e1] at e; omega
    rw [UInt8.toNat_inj.1 e1, numN_inj hl e2]
theorem num_toNat (l : List UInt8) : (num l).toNat = numN l % 2 ^ 64 := by
  have key : ∀ (l : List UInt8) (n : Nat), (l.foldl (fun (n : BitVec 64) (c : UInt8) => (n <<< 8) ||| BitVec.ofNat 64 c.toNat) (BitVec.ofNat 64 n)) = BitVec.ofNat 64 (l.foldl (fun n c => n * 256 + c.toNat) n) := by
    intro l
    induction l with
    | nil => intro n; rfl
    | cons c r ih =>
      intro n
      simp only [List.foldl_cons]
      rw [← ih]
      congr 1
      have hc := c.toNat_lt
      apply BitVec.eq_of_toNat_eq
      have hd : BitVec.ofNat 64 n <<< 8 &&& BitVec.ofNat 64 c.toNat = 0#64 := by
        apply BitVec.eq_of_getLsbD_eq
        intro i hi
        simp only [BitVec.getLsbD_and, BitVec.getLsbD_shiftLeft, BitVec.getLsbD_ofNat]
        by_cases h8 : i < 8
        · simp [h8]
        · have : c.toNat.testBit i = false := Nat.testBit_lt_two_pow (Nat.lt_of_lt_of_le hc (Nat.pow_le_pow_right (by omega) (show 8 ≤ i by omega)))
          simp [this]
      rw [← BitVec.add_eq_or_of_and_eq_zero _ _ hd]
      simp only [BitVec.toNat_add, BitVec.toNat_shiftLeft, BitVec.toNat_ofNat, Nat.shiftLeft_eq]
      omega
  have := key l 0
  unfold num numN
  rw [show (0 : BitVec 64) = BitVec.ofNat 64 0 from rfl, this]
  simp
theorem num_small {l : List UInt8} (h : l.length ≤ 8) : (num l).toNat = numN l := by
  rw [num_toNat]
  apply Nat.mod_eq_of_lt
  have h1 := numN_lt l
  have h2 : 256 ^ l.length ≤ 256 ^ 8 := Nat.pow_le_pow_right (by omega) h
  have : (256 : Nat) ^ 8 = 2 ^ 64 := by decide
  omega
theorem be_succ (n : Nat) (x : BitVec 64) : be (n + 1) x = beB x n :: be n x := by
  unfold be
  rw [List.range_succ_eq_map, List.map_cons, List.map_map]
  congr 1
  apply List.map_congr_left
  intro i _
  simp only [Function.comp]
  congr 1
  omega
theorem beB_toNat (x : BitVec 64) (k : Nat) : (beB x k).toNat = x.toNat / 256 ^ k % 256 := by
  unfold beB
  rw [UInt8.toNat_ofNat', BitVec.toNat_ushiftRight, Nat.shiftRight_eq_div_pow, Nat.pow_mul]
theorem numN_be (x : BitVec 64) : ∀ n : Nat, numN (be n x) = x.toNat % 256 ^ n
  | 0 => by simp [be, numN, Nat.mod_one]
  | n + 1 => by
    rw [be_succ, numN_cons, numN_be x n, length_be, beB_toNat, Nat.pow_succ, Nat.mod_mul]
    rw [Nat.mul_comm, Nat.add_comm]
theorem num_be {n : Nat} (hn : n ≤ 8) (x : BitVec 64) (hx : x.toNat < 256 ^ n) : (num (be n x)).toNat = x.toNat := by
  rw [num_small (by rw [length_be]; exact hn), numN_be, Nat.mod_eq_of_lt hx]
theorem num_be8 (x : BitVec 64) : num (be 8 x) = x := BitVec.eq_of_toNat_eq (num_be (by omega) x (Nat.lt_of_lt_of_le x.isLt (by decide)))

theorem be_num8 {l : List UInt8} (h : l.length = 8) : be 8 (num l) = l := by
  apply numN_inj (by rw [length_be, h])
  rw [numN_be, num_small (by omega), Nat.mod_eq_of_lt]
  have := numN_lt l; rwa [h] at this

namespace LeafM
def ok (x : LeafM) : Prop := x.stamp ≠ 0#64 ∧ x.at' < 65536 ∧ x.of' < 65536 ∧ x.bytes.length ≤ 480
theorem page_parts (x : LeafM) (h : x.bytes.length ≤ 480) : x.page.take 8 = be 8 x.stamp ∧ (x.page.drop 8).take 2 = be 2 (BitVec.ofNat 64 x.at') ∧ (x.page.drop 10).take 2 = be 2 (BitVec.ofNat 64 x.of') ∧
    (x.page.drop 12).take 4 = be 4 (BitVec.ofNat 64 x.bytes.length) ∧ (x.page.drop 16).take x.bytes.length = x.bytes ∧ x.page.drop 504 = be 8 x.stamp := by
  have h8 := length_be 8 x.stamp
  have h2 := length_be 2 (BitVec.ofNat 64 x.at')
  have h2' := length_be 2 (BitVec.ofNat 64 x.of')
  have h4 := length_be 4 (BitVec.ofNat 64 x.bytes.length)
  have hs := length_said h
  have hr : (be 8 (crcSum x.said)).reverse.length = 8 := by simp [length_be]
  have key : ∀ (a b c : List UInt8) (n m : Nat), a.length = n → b.length = m → ((a ++ (b ++ c)).drop n).take m = b := by
    intro a b c n m ha hb
    rw [List.drop_left' ha, List.take_left' hb]
  have hp : x.page = be 8 x.stamp ++ (be 2 (BitVec.ofNat 64 x.at') ++ (be 2 (BitVec.ofNat 64 x.of') ++ (be 4 (BitVec.ofNat 64 x.bytes.length) ++ (x.bytes ++ (List.replicate (480 - x.bytes.length) 0 ++ ((be 8 (crcSum x.said)).reverse ++ be 8 x.stamp)))))) := by
    simp only [page, said, List.append_assoc]
  refine ⟨?_, ?_, ?_, ?_, ?_, ?_⟩
  · rw [hp, List.take_left' h8]
  · rw [hp]; exact key _ _ _ _ _ h8 h2
  · rw [hp, ← List.append_assoc]; exact key _ _ _ _ _ (by simp [length_be]) h2'
  · rw [hp, ← List.append_assoc, ← List.append_assoc]; exact key _ _ _ _ _ (by simp [length_be]) h4
  · rw [hp, ← List.append_assoc, ← List.append_assoc, ← List.append_assoc]; exact key _ _ _ _ _ (by simp [length_be]) rfl
  · unfold page; rw [List.drop_left' (by simp [length_be, hs])]
theorem leafOf_page {x : LeafM} (h : x.ok) : leafOf x.page = x := by
  obtain ⟨h0, h1, h2, h3⟩ := h
  obtain ⟨e1, e2, e3, e4, e5, _⟩ := page_parts x h3
  have n2 : (num (be 2 (BitVec.ofNat 64 x.at'))).toNat = x.at' := by
    have : (BitVec.ofNat 64 x.at').toNat = x.at' := by simp; omega
    rw [num_be (by omega) _ (by rw [this]; omega), this]
  have n3 : (num (be 2 (BitVec.ofNat 64 x.of'))).toNat = x.of' := by
    have : (BitVec.ofNat 64 x.of').toNat = x.of' := by simp; omega
    rw [num_be (by omega) _ (by rw [this]; omega), this]
  have n4 : (num (be 4 (BitVec.ofNat 64 x.bytes.length))).toNat = x.bytes.length := by
    have : (BitVec.ofNat 64 x.bytes.length).toNat = x.bytes.length := by simp; omega
    rw [num_be (by omega) _ (by rw [this]; omega), this]
  unfold leafOf
  rw [e1, e2, e3, e4, n2, n3, n4, e5, num_be8]
theorem saidL_page {x : LeafM} (h : x.ok) : saidL x.page = (x, true) := by
  have hl := leafOf_page h
  obtain ⟨h0, h1, h2, h3⟩ := h
  obtain ⟨e1, e2, e3, e4, e5, _⟩ := page_parts x h3
  have n4 : (num (be 4 (BitVec.ofNat 64 x.bytes.length))).toNat = x.bytes.length := by
    have : (BitVec.ofNat 64 x.bytes.length).toNat = x.bytes.length := by simp; omega
    rw [num_be (by omega) _ (by rw [this]; omega), this]
  unfold saidL
  rw [e1, e4, n4, num_be8, if_neg (by simp only [not_or]; exact ⟨h0, by omega⟩), hl]
  simp
end LeafM
/-- A page that says something is the page of what it says. -/
theorem saidL_true {p : List UInt8} (h : (saidL p).2 = true) : saidL p = (leafOf p, true) ∧ (leafOf p).page = p ∧ (num ((p.drop 12).take 4)).toNat ≤ 480 ∧ num (p.take 8) ≠ 0#64 := by
  unfold saidL at h ⊢
  split at h
  · cases h
  · rename_i hc
    rw [if_neg hc]
    simp only [not_or, Nat.not_lt] at hc
    have h' : (leafOf p).page = p := by simpa using h
    exact ⟨by rw [h']; simp, h', hc.2, hc.1⟩
theorem leafOf_len (p : List UInt8) (h : (num ((p.drop 12).take 4)).toNat ≤ 480) : (leafOf p).bytes.length ≤ 480 := by
  simp only [leafOf, List.length_take]; omega
end Go.Proofs.YtfgggkheadfiaaaR
