/- The laws of layer 7: contracts in the form that a law's walk wants; 'wakes', the example that each of them ends with. -/
import Derived.Test.YtfgggkheadfiaaaRSheet
namespace Go.Proofs.YtfgggkheadfiaaaR
open Go Go.RowKit
attribute [local go_sem ↓] Go.wp_at_zero Go.wp_at_succ

section
variable {w : World} {o : Own} {D p : Nat} {d d1 : DiskM} {e1 : Int}
theorem write_is (h : DiskAt w o D p d) (hD : D ≠ 0) (hrow : d.row.length ≤ 1000000) (at' : Int) (v : Value) (l : List UInt8) (hb : Bytes w o v l) (he : d.write at' l = (d1, e1)) :
    Calls Try.prog 22 #[.pointer (some ⟨p, 0, none⟩), .int .i64 at', v] w (Ret (Only D) w o fun v w' o' => v = .int .i64 e1 ∧ DiskAt w' o' D p d1) := by
  have := write_any h hD at' v l hb hrow
  rw [he] at this; exact this
theorem read_is {l : List UInt8} (h : DiskAt w o D p d) (hrow : d.row.length ≤ 1000000) (at' : Int) (he : d.read at' = (l, e1)) :
    Calls Try.prog 25 #[.pointer (some ⟨p, 0, none⟩), .int .i64 at'] w (Ret Nobody w o fun v w' o' => ∃ vb, v = .tuple #[vb, .int .i64 e1] ∧ NewPage w w' o' vb l) := by
  have := read_any h at' hrow
  rw [he] at this; exact this
theorem sync_is (h : DiskAt w o D p d) (hrow : d.row.length ≤ 1000000) (he : d.sync = (d1, e1)) :
    Calls Try.prog 24 #[.pointer (some ⟨p, 0, none⟩)] w (Ret (Only D) w o fun v w' o' => v = .int .i64 e1 ∧ DiskAt w' o' D p d1) := by
  have := sync_any h hrow
  rw [he] at this; exact this
theorem restart_is (h : DiskAt w o D p d) (hD : D ≠ 0) (hrow : d.row.length ≤ 1000000) (fv : Value) (l : List Int) (hl : Ints w o fv l) (hwf : ∀ a ∈ l, -9223372036854775808 ≤ a ∧ a ≤ 9223372036854775807) (he : d.restart l = d1) :
    Calls Try.prog 26 #[.pointer (some ⟨p, 0, none⟩), fv] w (Ret (Only D) w o fun v w' o' => v = .tuple #[] ∧ DiskAt w' o' D p d1) := by
  have := restart_any h hD hrow fv l hl hwf
  rw [he] at this; exact this
theorem new_is (n : Nat) (D : Nat) (h1 : 1 ≤ n) (h2 : n ≤ 4096) (he : DiskM.new n = d1) : Calls Try.prog 20 #[.int .i64 (n : Int)] w (Ret Nobody w o fun v w' o' => ∃ p, w.heap.size ≤ p ∧ v = .tuple #[.pointer (some ⟨p, 0, none⟩), .int .i64 0] ∧ DiskAt w' o' D p d1) := by
  have := new_ok n w o D h1 h2
  rw [he] at this; exact this
end

theorem np_nil {w w' : World} {o' : Own} {v : Value} (h : NewPage w w' o' v []) : v = .slice none 0 0 := by
  rcases h with ⟨h, _⟩ | ⟨b, _, h, _⟩
  · exact h
  · cases h
theorem np_page {w w' : World} {o' : Own} {v : Value} {l : List UInt8} (h : NewPage w w' o' v l) (hl : l.length = 512) :
    ∃ b, v = .slice (some ⟨b, 0, none⟩) 512 512 ∧ Bytes w' o' (.slice (some ⟨b, 0, none⟩) 512 512) l ∧ w.heap.size ≤ b ∧ Hid (w'.heap[b]? = some (.cells (bvs l).toArray 127 (0, 0)) ∧ o' b = (0, 0)) := by
  have hb := h.bytes
  rcases h with ⟨_, h⟩ | ⟨b, rfl, h, hbw, hh, ho⟩
  · rw [h] at hl; cases hl
  · exact ⟨b, rfl, hb, hbw, hh, ho⟩
theorem Bytes.cell {w : World} {o : Own} {b off n c : Nat} {l : List UInt8} (h : Bytes w o (.slice (some ⟨b, off, none⟩) n c) l) (i : Nat) {x : UInt8} (hx : l[i]? = some x) : w.cell? ⟨b, off + i, none⟩ = some (.int .u8 (x.toNat : Int)) := by
  rcases h.cases with ⟨_, h⟩ | ⟨b', off', cap, hv, _, _, _, _, hr⟩
  · rw [h] at hx; simp at hx
  · simp only [Value.slice.injEq, Option.some.injEq, Addr.mk.injEq] at hv
    obtain ⟨⟨rfl, rfl, _⟩, _⟩ := hv
    exact hr i (bv x) (by rw [get_bvs, hx]; rfl)
/-- A new row of numbers. -/
theorem ints_new3 (w : World) (o : Own) (l : List Int) (hl : l.length ≤ 1000000) : Ints (w.alloc (.cells (ivs l).toArray 3)) (tagAt o w.heap.size (0, 0)) (.slice (some ⟨w.heap.size, 0, none⟩) l.length l.length) l :=
  .inr ⟨w.heap.size, 0, l.length, rfl, Nat.le_refl _, by simp [maxLen]; omega, by rw [tagAt_same], by simp, range_whole (heap_alloc_new w _)⟩

/-- bytes as a string. -/
theorem conv_string {w : World} {o : Own} {v : Value} {l : List UInt8} (h : Bytes w o v l) : (convert 28 9 v).run Try.prog w = .ok (.string ⟨l.toArray⟩) w := by
  rcases h.cases with ⟨⟨a, c, rfl⟩, rfl⟩ | ⟨b, off, cap, rfl, hl, hm, ho, hb, hr⟩
  · rw [run_convert_bytes_string w 28 9 5 a 0 c Try.underlying28 Try.underlying5 Try.underlying9]
    cases a <;> simp [Conv.bytesToString, loadCells, loadCellsFrom] <;> rfl
  · have := run_convert_bytes_arg (P := Try.prog) w 28 5 Try.underlying28 Try.underlying5 b off l.length cap (l.map fun x => (x.toNat : Int)) (by simp) (fun i hi => by
      rw [hr i (bv l[i]) (by rw [get_bvs, List.getElem?_eq_getElem hi]; rfl)]
      simp [bv, List.getElem?_eq_getElem hi]) 9 Try.underlying9
    rw [this]
    simp [strOfNums, Function.comp_def]

def A512 : List UInt8 := List.replicate 512 97
def B512 : List UInt8 := List.replicate 512 98
def wk0 : DiskM := DiskM.new 2
def wk1 : DiskM := (wk0.write 0 A512).1
def wk2 : DiskM := (wk1.write 0 B512).1
def wk3 : DiskM := wk2.restart [5, 2]
def wkp : List UInt8 := (wk3.read 0).1
theorem pair_of {α β : Type} {q : α × β} {b : β} (h : q.2 = b) : q = (q.1, b) := by subst h; rfl
theorem wk1e : wk0.write 0 A512 = (wk1, 0) := by unfold wk1; exact pair_of (by decide +kernel)
theorem wk2e : wk1.write 0 B512 = (wk2, 0) := by unfold wk2; exact pair_of (by decide +kernel)
theorem wk2w : wk2.row.length = 2 := by decide +kernel
theorem wkpe : wk3.read 0 = (wkp, 0) := by unfold wkp; exact pair_of (by decide +kernel)
theorem wkpl : wkp.length = 512 := by decide +kernel
theorem wkp6 : wkp.take 6 = [98, 98, 97, 97, 97, 0] := by decide +kernel
theorem wkp511 : wkp[511]? = some 0 := by decide +kernel
theorem sheetA : sheetL 97 0 512 = A512 := sheetL_zero _ _
theorem sheetB : sheetL 98 0 512 = B512 := sheetL_zero _ _

theorem wk0n : DiskM.new 2 = wk0 := rfl
theorem wk3r : wk2.restart [5, 2] = wk3 := rfl
theorem wkr0 : wk0.row.length ≤ 1000000 := by decide +kernel
theorem wkr1 : wk1.row.length ≤ 1000000 := by decide +kernel
theorem wkr2 : wk2.row.length ≤ 1000000 := by decide +kernel
theorem wkr3 : wk3.row.length ≤ 1000000 := by decide +kernel
attribute [irreducible] wk0 wk1 wk2 wk3 wkp A512 B512

set_option maxRecDepth 100000 in
set_option maxHeartbeats 1600000 in
theorem wakes_any (w : World) (o : Own) : Calls Try.prog 27 #[] w (Ret Nobody w o fun v _ _ => v = .bool true) := by
  obtain ⟨D, hD0, hDf⟩ := fresh_tag o w.heap.size 0
  have hD : D ≠ 0 := by omega
  clear hD0
  go_enter Try.func27, Try.ntmps27
  go_wp2_with fail
  refine (new_is (o := o) 2 D (by omega) (by omega) wk0n).mono ?_; rintro e wc ⟨v, oc, rfl, hst, p, hp, rfl, hd⟩
  have hst := hst.only D
  go_wp2_with fail
  refine (sheet_any 97 0 _ oc).mono ?_; rintro e wc ⟨v, oc, rfl, hs, hb⟩; have hb := hb.bytes; rw [sheetA] at hb; have hd := hd.step hs (fun x => x); have hst := hst.trans (hs.only D)
  go_wp2_with fail
  refine (write_is hd hD wkr0 0 _ _ hb wk1e).mono ?_; rintro e wc ⟨v, oc, rfl, hs, rfl, hd⟩; have hst := hst.trans hs
  go_wp2_with fail
  refine (sheet_any 98 0 _ oc).mono ?_; rintro e wc ⟨v, oc, rfl, hs, hb⟩; have hb := hb.bytes; rw [sheetB] at hb; have hd := hd.step hs (fun x => x); have hst := hst.trans (hs.only D)
  go_wp2_with fail
  refine (write_is hd hD wkr1 0 _ _ hb wk2e).mono ?_; rintro e wc ⟨v, oc, rfl, hs, rfl, hd⟩; have hst := hst.trans hs
  go_wp2_with fail
  refine (waiting_any hd).mono ?_; rintro e w' ⟨rfl, rfl⟩; rw [wk2w]
  have hs := (Step.refl Nobody wc oc).alloc (.cells (ivs [5, 2]).toArray 3) (0, 0)
  have hdi := hd.step hs (fun x => x)
  have hli := ints_new3 wc oc [5, 2] (by decide)
  have hst := hst.trans (hs.only D)
  go_wp2_with fail
  refine (restart_is hdi hD wkr2 _ [5, 2] hli (by intro a ha; simp at ha; omega) wk3r).mono ?_; rintro e wc ⟨v, oc, rfl, hs, rfl, hd⟩; have hst := hst.trans hs
  go_wp2_with fail
  refine (read_is hd wkr3 0 wkpe).mono ?_; rintro e wc ⟨v, oc, rfl, hs, vb, rfl, hn⟩; have hst := (hst.trans (hs.only D)).nobody hDf
  obtain ⟨b, rfl, hbw, hbh⟩ : ∃ b, vb = .slice (some ⟨b, 0, none⟩) 512 512 ∧ Hid (wc.heap[b]? = some (.cells (bvs wkp).toArray 127 (0, 0))) ∧ Bytes wc oc (.slice (some ⟨b, 0, none⟩) 6 512) (wkp.take 6) := by
    rcases hn with ⟨_, h0⟩ | ⟨b, rfl, hl, hb, hh, ho⟩
    · have := wkpl; rw [h0] at this; cases this
    · refine ⟨b, rfl, hh, .inr ⟨b, 0, 512, by rw [List.length_take, wkpl]; rfl, by rw [List.length_take, wkpl]; decide, by simp [maxLen], by rw [ho], lt_of_block hh, ?_⟩⟩
      have := range_of_block hh 0 6
      rwa [List.drop_zero, bvs_take] at this
  have hcv := conv_string hbh
  rw [wkp6] at hcv
  have h511 : wc.cell? ⟨b, 511, none⟩ = some (.int .u8 0) := by
    rw [cell_of_block hbw.out 511, get_bvs, wkp511]; rfl
  clear hbh hbw hn hd hs
  go_wp2_with fail
  go_ret
  exact ⟨_, oc, rfl, hst, rfl⟩
end Go.Proofs.YtfgggkheadfiaaaR
