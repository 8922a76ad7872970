/- Contract of the laws' own 'Sheet': 512 bytes that rise. -/
import Derived.Test.YtfgggkheadfiaaaRDisk5
namespace Go.Proofs.YtfgggkheadfiaaaR
open Go Go.RowKit
attribute [local go_sem ↓] Go.wp_at_zero Go.wp_at_succ

def sheetSt (b s : UInt8) : Nat → UInt8
  | 0 => b
  | n + 1 => sheetSt b s n + s
def sheetL (b s : UInt8) (n : Nat) : List UInt8 := (List.range n).map (sheetSt b s)
theorem sheetL_succ (b s : UInt8) (n : Nat) : sheetL b s (n + 1) = sheetL b s n ++ [sheetSt b s n] := by simp [sheetL, List.range_succ]
theorem length_sheetL (b s : UInt8) (n : Nat) : (sheetL b s n).length = n := by simp [sheetL]
theorem sheetL_zero (b : UInt8) (n : Nat) : sheetL b 0 n = List.replicate n b := by
  have h : ∀ k, sheetSt b 0 k = b := by
    intro k; induction k with
    | zero => rfl
    | succ k ih => rw [sheetSt, ih]; simp
  apply List.ext_getElem
  · simp [sheetL]
  · intro i h1 h2; simp [sheetL, h]

theorem inf5 : (Try.prog.info? 5).map (fun i => (i.zero.map (fun z => z.cells.toList), i.size, i.bytes)) = some (some [.int .u8 0], 1, 1) := by kernel_rfl
theorem u8_add (x y : UInt8) : ((x.toNat : Int) + (y.toNat : Int)) % 256 = ((x + y).toNat : Int) := by
  rw [UInt8.toNat_add]; omega

/-- New bytes of the call's own: they may be appended to. -/
def NewB (w w' : World) (o' : Own) (v : Value) (l : List UInt8) : Prop :=
  w'.ownsRow w.heap.size 5 1 v l.length (bvs l) ∧ ∀ k, v.ownBlock = some k → o' k = (0, 0)
theorem NewB.bytes {w w' : World} {o' : Own} {v : Value} {l : List UInt8} (h : NewB w w' o' v l) : Bytes w' o' v l := by
  obtain ⟨h1, h2⟩ := h
  rcases h1.2 with ⟨rfl, h0⟩ | ⟨g, cap, cur, rfl, hb, hg, hnc, hcm, hcs, htake⟩
  · rw [List.eq_nil_of_length_eq_zero h0]; exact Bytes.nil _ _
  · refine .inr ⟨g, 0, cap, rfl, hnc, hcm, by rw [h2 g rfl], lt_of_block hg, ?_⟩
    have e1 : w'.heap[g]? = some (.cells cur.toList.toArray 5 (0, 0)) := by simpa using hg
    have := range_of_block e1 0 l.length
    rw [List.drop_zero] at this
    rw [Nat.mul_one] at htake
    rwa [htake] at this

set_option maxRecDepth 100000 in
set_option maxHeartbeats 1600000 in
theorem sheet_any (b s : UInt8) (w : World) (o : Own) : Calls Try.prog 23 #[.int .u8 (b.toNat : Int), .int .u8 (s.toNat : Int)] w (Ret Nobody w o fun v w' o' => NewB w w' o' v (sheetL b s 512)) := by
  go_enter Try.func23, Try.ntmps23
  go_wp2_with fail
  go_loopw [0, 5, 6] (fun x v i wr => ∃ k : Nat, k ≤ 512 ∧ i = .int .i64 k ∧ x = .int .u8 ((sheetSt b s k).toNat : Int) ∧ wr.ownsRow w.heap.size 5 1 v k (bvs (sheetL b s k)) ∧ Below w.heap.size w wr)
    (fun _ _ i _ => 512 - (intOf i).toNat)
  case atStart => exact ⟨0, by omega, rfl, rfl, World.ownsRow_nil _ _ _ _, Below.refl _ _⟩
  case round =>
    obtain ⟨k, hk, rfl, rfl, hown, hbel⟩ := hrel
    by_cases hlt : k < 512
    · have hadd := u8_add (sheetSt b s k) s
      have hownA := hown.alloc (.cells #[.int .u8 ((sheetSt b s k).toNat : Int)] 5)
      have hnb : (wr.alloc (.cells #[.int .u8 ((sheetSt b s k).toNat : Int)] 5)).heap[wr.heap.size]? = some (.cells [Value.int .u8 ((sheetSt b s k).toNat : Int)].toArray 5 (0, 0)) := heap_alloc_new wr _
      obtain ⟨g, cap, w3, hrun, hown3, hgrow, hat, hlt3⟩ := run_append_row (P := Try.prog) _ 28 28 5 Try.underlying28 inf5 rfl (by omega) (by have := hbel.size; simp; omega) _ k (bvs (sheetL b s k)) hownA wr.heap.size 0 1 1
        [Value.int .u8 ((sheetSt b s k).toNat : Int)] rfl (range_whole hnb) (one_cons rfl (by simp)) (by omega) (by omega) (by omega)
      have hb3 : Below w.heap.size w w3 := (hbel.alloc hbel.size _).grown hgrow (by have := hbel.size; simp; omega) (fun k hk => (hown.lt k hk).1)
      have hown3' : w3.ownsRow w.heap.size 5 1 (.slice (some ⟨g, 0, none⟩) (k + 1) cap) (k + 1) (bvs (sheetL b s (k + 1))) := by rw [sheetL_succ, bvs_append]; exact hown3
      have haddH := hidden hadd
      have hrunH := hidden hrun
      clear hadd hown3 hrun hat hlt3 hnb hownA
      go_wp2_with ((with_reducible apply lit_append); exact hrunH.out; simp only [Act.put, List.setIfInBounds_toArray, List.set_cons_zero, List.set_cons_succ])
      go_roundw
      case rel => exact ⟨k + 1, by omega, by go_num, by rw [haddH.out]; rfl, hown3', hb3⟩
      case measure => simp [intOf]; omega
    · have : k = 512 := by omega
      subst this
      go_wp2
      go_ret
      refine ⟨_, (fun k => if k < w.heap.size then o k else (0, 0)), rfl, ⟨hbel.os, hbel.tape, hbel.output, hbel.size, fun k hk => if_pos hk, fun k hk _ => hbel.block k hk⟩, ?_, ?_⟩
      · rw [length_sheetL]; exact hown
      · intro k hk
        exact if_neg (by have := (hown.lt k hk).1; omega)
end Go.Proofs.YtfgggkheadfiaaaR
