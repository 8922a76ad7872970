/- Plain laws: a page whose write was torn. No program in sight. -/
import Derived.Test.YtfgggkheadfiaaaRLogP4
namespace Go.Proofs.YtfgggkheadfiaaaR
open Go Go.RowKit

theorem small8 {A : List UInt8} (h : A.length = 8) (hn : numN A < 65536) : ∃ x y : UInt8, A = [0, 0, 0, 0, 0, 0, x, y] ∧ numN A = x.toNat * 256 + y.toNat := by
  have hx : ∀ x y : UInt8, numN [0, 0, 0, 0, 0, 0, x, y] = x.toNat * 256 + y.toNat := fun x y => by simp [numN]
  obtain ⟨N, hN⟩ : ∃ N, numN A = N := ⟨_, rfl⟩
  rw [hN] at hn ⊢
  have e1 : (UInt8.ofNat (N / 256)).toNat = N / 256 := by rw [UInt8.toNat_ofNat']; omega
  have e2 : (UInt8.ofNat (N % 256)).toNat = N % 256 := by rw [UInt8.toNat_ofNat']; omega
  refine ⟨UInt8.ofNat (N / 256), UInt8.ofNat (N % 256), ?_, ?_⟩
  · apply numN_inj
    · simpa using h
    · rw [hx, e1, e2, hN]; omega
  · rw [e1, e2]; omega
/-- The first n of eight bytes are new. -/
theorem mix8 {A B : List UInt8} (hA : A.length = 8) (hB : B.length = 8) (a : numN A < 65536) (b : numN B < 65536) (n : Nat) :
    A.take n ++ B.drop n = B ∨ A.take n ++ B.drop n = A ∨ (numN (A.take n ++ B.drop n) = numN A / 256 * 256 + numN B % 256) := by
  obtain ⟨x, y, rfl, ha⟩ := small8 hA a
  obtain ⟨u, v, rfl, hb⟩ := small8 hB b
  have hy := y.toNat_lt
  have hv := v.toNat_lt
  by_cases h8 : 8 ≤ n
  · right; left
    rw [List.take_of_length_le (by simpa using h8), List.drop_eq_nil_of_le (by simpa using h8), List.append_nil]
  by_cases h7 : n = 7
  · right; right
    subst h7
    rw [ha, hb]
    have : numN (List.take 7 [0, 0, 0, 0, 0, 0, x, y] ++ List.drop 7 [0, 0, 0, 0, 0, 0, u, v]) = x.toNat * 256 + v.toNat := by simp [numN]
    rw [this]; omega
  · left
    have : n = 0 ∨ n = 1 ∨ n = 2 ∨ n = 3 ∨ n = 4 ∨ n = 5 ∨ n = 6 := by omega
    rcases this with rfl | rfl | rfl | rfl | rfl | rfl | rfl <;> rfl

namespace LogM
/-- The stamps at both ends of a page are K at most; and how they stand to one another. -/
def PageOk (K : Nat) (p : List UInt8) : Prop := p.length = 512 ∧ numN (p.take 8) ≤ K ∧ numN (p.drop 504) ≤ K ∧ (numN (p.take 8) % 256 = numN (p.drop 504) % 256 → numN (p.drop 504) / 256 ≤ numN (p.take 8) / 256)
theorem PageOk.mono {K K' : Nat} {p : List UInt8} (h : PageOk K p) (hK : K ≤ K') : PageOk K' p := ⟨h.1, Nat.le_trans h.2.1 hK, Nat.le_trans h.2.2.1 hK, h.2.2.2⟩
theorem cut_page {p : List UInt8} (h : p.length = 512) : p = p.take 8 ++ ((p.drop 8).take 496 ++ p.drop 504) := by
  rw [show p.drop 504 = (p.drop 8).drop 496 from by rw [List.drop_drop], List.take_append_drop, List.take_append_drop]
theorem ends {A M Z : List UInt8} (hA : A.length = 8) (hM : M.length = 496) (hZ : Z.length = 8) : (A ++ (M ++ Z)).take 8 = A ∧ (A ++ (M ++ Z)).drop 504 = Z ∧ (A ++ (M ++ Z)).length = 512 := by
  refine ⟨List.take_left' hA, ?_, by simp; omega⟩
  rw [show 504 = 8 + 496 from rfl, ← List.drop_drop, List.drop_left' hA, List.drop_left' hM]
theorem splice_low {A R A' R' : List UInt8} (hA : A.length = 8) (hA' : A'.length = 8) {n : Nat} (hn : n ≤ 8) : DiskM.splicePage n (A' ++ R') (A ++ R) = (A'.take n ++ A.drop n) ++ R := by
  unfold DiskM.splicePage
  rw [List.take_append_of_le_length (by omega), List.drop_append_of_le_length (by omega), List.append_assoc]
theorem splice_mid {A M Z A' M' Z' : List UInt8} (hA : A.length = 8) (hA' : A'.length = 8) (hM : M.length = 496) (hM' : M'.length = 496) {m : Nat} (hn : m ≤ 496) : DiskM.splicePage (8 + m) (A' ++ (M' ++ Z')) (A ++ (M ++ Z)) = A' ++ ((M'.take m ++ M.drop m) ++ Z) := by
  unfold DiskM.splicePage
  have e1 : (A' ++ (M' ++ Z')).take (8 + m) = A' ++ M'.take m := by
    rw [show 8 + m = A'.length + m from by omega, List.take_length_add_append, List.take_append_of_le_length (by omega)]
  have e2 : (A ++ (M ++ Z)).drop (8 + m) = M.drop m ++ Z := by
    rw [show 8 + m = A.length + m from by omega, List.drop_length_add_append, List.drop_append_of_le_length (by omega)]
  rw [e1, e2]; simp [List.append_assoc]
theorem splice_high {A M Z A' M' Z' : List UInt8} (hA : A.length = 8) (hA' : A'.length = 8) (hM : M.length = 496) (hM' : M'.length = 496) {m : Nat} (hn : m ≤ 8) (hZ : Z.length = 8) (hZ' : Z'.length = 8) : DiskM.splicePage (504 + m) (A' ++ (M' ++ Z')) (A ++ (M ++ Z)) = A' ++ (M' ++ (Z'.take m ++ Z.drop m)) := by
  unfold DiskM.splicePage
  have e1 : (A' ++ (M' ++ Z')).take (504 + m) = A' ++ (M' ++ Z'.take m) := by
    rw [show 504 + m = A'.length + (M'.length + m) from by omega, List.take_length_add_append, List.take_length_add_append]
  have e2 : (A ++ (M ++ Z)).drop (504 + m) = Z.drop m := by
    rw [show 504 + m = A.length + (M.length + m) from by omega, List.drop_length_add_append, List.drop_length_add_append]
  rw [e1, e2]; simp [List.append_assoc]
theorem says_ends {p : List UInt8} (h : (saidL p).2 = true) : numN (p.take 8) = numN (p.drop 504) := by
  obtain ⟨-, h1, h2, -⟩ := saidL_true h
  obtain ⟨e1, -, -, -, -, e2⟩ := LeafM.page_parts (leafOf p) (leafOf_len p h2)
  rw [h1] at e1 e2
  rw [e1, e2]
theorem says_not {p : List UInt8} (h : numN (p.take 8) ≠ numN (p.drop 504)) : (saidL p).2 = false := by
  cases hs : (saidL p).2 with
  | false => rfl
  | true => exact (h (says_ends hs)).elim
theorem page_cut {x : LeafM} (hx : x.bytes.length ≤ 480) : ∃ M, M.length = 496 ∧ x.page = be 8 x.stamp ++ (M ++ be 8 x.stamp) := by
  obtain ⟨e1, -, -, -, -, e2⟩ := LeafM.page_parts x hx
  have hl := LeafM.length_page hx
  have := cut_page hl
  rw [e1, e2] at this
  exact ⟨_, by simp [hl], this⟩
theorem numN_be8 (S : BitVec 64) : numN (be 8 S) = S.toNat := by rw [numN_be]; exact Nat.mod_eq_of_lt (Nat.lt_of_lt_of_le S.isLt (by decide))
theorem pageOk_page {x : LeafM} (hx : x.bytes.length ≤ 480) {K : Nat} (hK : x.stamp.toNat ≤ K) : PageOk K x.page := by
  obtain ⟨M, hM, e⟩ := page_cut hx
  obtain ⟨e1, e2, e3⟩ := ends (length_be 8 x.stamp) hM (length_be 8 x.stamp)
  unfold PageOk
  rw [e, e1, e2, e3, numN_be8]
  exact ⟨rfl, hK, hK, fun _ => Nat.le_refl _⟩
theorem torn_page {K : Nat} (x : LeafM) (hx : x.bytes.length ≤ 480) (hK : K < x.stamp.toNat) (hS : x.stamp.toNat < 65536) {p : List UInt8} (hp : PageOk K p) (n : Nat) :
    (DiskM.splicePage n x.page p = p ∨ DiskM.splicePage n x.page p = x.page ∨ (saidL (DiskM.splicePage n x.page p)).2 = false) ∧ PageOk (x.stamp.toNat + 255) (DiskM.splicePage n x.page p) := by
  obtain ⟨hl, hf, hg, hc⟩ := hp
  obtain ⟨M', hM', e⟩ := page_cut hx
  have hS8 := length_be 8 x.stamp
  have hSn := numN_be8 x.stamp
  have hcut := cut_page hl
  obtain ⟨A, hA⟩ : ∃ A, p.take 8 = A := ⟨_, rfl⟩
  obtain ⟨M, hM⟩ : ∃ M, (p.drop 8).take 496 = M := ⟨_, rfl⟩
  obtain ⟨Z, hZ⟩ : ∃ Z, p.drop 504 = Z := ⟨_, rfl⟩
  have hAl : A.length = 8 := by rw [← hA]; simp [hl]
  have hMl : M.length = 496 := by rw [← hM]; simp [hl]
  have hZl : Z.length = 8 := by rw [← hZ]; simp [hl]
  rw [hA, hM, hZ] at hcut
  rw [hA] at hf hc
  rw [hZ] at hg hc
  clear hA hM hZ
  have hAll : PageOk (x.stamp.toNat + 255) p := by
    obtain ⟨e1, e2, e3⟩ := ends hAl hMl hZl
    unfold PageOk
    rw [hcut, e1, e2, e3]
    exact ⟨rfl, by omega, by omega, hc⟩
  have hNew : PageOk (x.stamp.toNat + 255) x.page := pageOk_page hx (by omega)
  generalize hB : be 8 x.stamp = B at *
  generalize x.stamp.toNat = S at *
  have fin : ∀ {A2 M2 Z2 : List UInt8}, A2.length = 8 → M2.length = 496 → Z2.length = 8 → numN A2 ≤ S + 255 → numN Z2 ≤ S + 255 → numN A2 ≠ numN Z2 → (numN A2 % 256 = numN Z2 % 256 → numN Z2 / 256 ≤ numN A2 / 256) →
      (saidL (A2 ++ (M2 ++ Z2))).2 = false ∧ PageOk (S + 255) (A2 ++ (M2 ++ Z2)) := by
    intro A2 M2 Z2 h1 h2 h3 h4 h5 h6 h7
    obtain ⟨e1, e2, e3⟩ := ends h1 h2 h3
    refine ⟨says_not (by rw [e1, e2]; exact h6), ?_⟩
    unfold PageOk
    rw [e1, e2, e3]
    exact ⟨rfl, h4, h5, h7⟩
  by_cases h8 : n ≤ 8
  · rw [e, hcut, splice_low hAl hS8 h8]
    rcases mix8 hS8 hAl (by omega) (by omega) n with h | h | h
    · rw [h, ← hcut]; exact ⟨.inl rfl, hAll⟩
    · rw [h]
      have := fin hS8 hMl hZl (by omega) (by omega) (by omega) (by omega)
      exact ⟨.inr (.inr this.1), this.2⟩
    · by_cases he : numN (B.take n ++ A.drop n) = numN Z
      · have hA2 : B.take n ++ A.drop n = A := by
          apply numN_inj
          · simp [hS8, hAl]; omega
          · rw [h] at he ⊢
            have h1 : numN A % 256 = numN Z % 256 := by omega
            have h2 := hc h1
            omega
        rw [hA2, ← hcut]; exact ⟨.inl rfl, hAll⟩
      · have := fin (A2 := B.take n ++ A.drop n) (M2 := M) (Z2 := Z) (by simp [hS8, hAl]; omega) hMl hZl (by rw [h]; omega) (by omega) he (by rw [h]; omega)
        exact ⟨.inr (.inr this.1), this.2⟩
  · by_cases h504 : n ≤ 504
    · obtain ⟨m, rfl⟩ : ∃ m, n = 8 + m := ⟨n - 8, by omega⟩
      rw [e, hcut, splice_mid hAl hS8 hMl hM' (by omega)]
      have := fin (A2 := B) (M2 := M'.take m ++ M.drop m) (Z2 := Z) hS8 (by simp [hMl, hM']; omega) hZl (by omega) (by omega) (by omega) (by omega)
      exact ⟨.inr (.inr this.1), this.2⟩
    · by_cases h512 : n ≤ 512
      · obtain ⟨m, rfl⟩ : ∃ m, n = 504 + m := ⟨n - 504, by omega⟩
        rw [e, hcut, splice_high hAl hS8 hMl hM' (by omega) hZl hS8]
        rcases mix8 hS8 hZl (by omega) (by omega) m with h | h | h
        · rw [h]
          have := fin (A2 := B) (M2 := M') (Z2 := Z) hS8 hM' hZl (by omega) (by omega) (by omega) (by omega)
          exact ⟨.inr (.inr this.1), this.2⟩
        · rw [h, ← e]; exact ⟨.inr (.inl rfl), hNew⟩
        · by_cases he : numN B = numN (B.take m ++ Z.drop m)
          · have : B.take m ++ Z.drop m = B := by
              apply numN_inj
              · simp [hS8, hZl]; omega
              · exact he.symm
            rw [this, ← e]; exact ⟨.inr (.inl rfl), hNew⟩
          · have := fin (A2 := B) (M2 := M') (Z2 := B.take m ++ Z.drop m) hS8 hM' (by simp [hS8, hZl]; omega) (by omega) (by rw [h]; omega) he (by rw [h]; omega)
            exact ⟨.inr (.inr this.1), this.2⟩
      · have : DiskM.splicePage n x.page p = x.page := by
          unfold DiskM.splicePage
          rw [List.take_of_length_le (by rw [LeafM.length_page hx]; omega), List.drop_eq_nil_of_le (by omega), List.append_nil]
        rw [this]; exact ⟨.inr (.inl rfl), hNew⟩
end LogM

namespace DiskM
/-- Pages behind a row of writes to pages that follow one another, each of which is torn. -/
theorem torn_pages (f : Nat → Nat) (pages : List (List UInt8)) (base : Nat) (g : Nat → List UInt8) : ∀ m, base + m ≤ pages.length → ∀ j,
    (donePages f pages ((List.range m).map fun t => (base + t, g t))).getD j [] = if base ≤ j ∧ j < base + m then splicePage (f (j - base)) (g (j - base)) (pages.getD j []) else pages.getD j []
  | 0, _, j => by rw [if_neg (by omega)]; rfl
  | m + 1, h, j => by
    have ih := torn_pages f pages base g m (by omega)
    rw [List.range_succ, List.map_append, List.map_cons, List.map_nil, donePages_snoc]
    unfold doneOne
    simp only [List.length_map, List.length_range]
    rw [getD_set_in _ _ _ _ _ (by rw [length_donePages]; omega)]
    by_cases hj : base + m = j
    · rw [if_pos hj, if_pos (by omega), ih, if_neg (by omega), hj, show j - base = m from by omega]
    · rw [if_neg hj, ih]
      by_cases h2 : base ≤ j ∧ j < base + m
      · rw [if_pos h2, if_pos (by omega)]
      · rw [if_neg h2, if_neg (by omega)]
end DiskM
end Go.Proofs.YtfgggkheadfiaaaR
