/- The disk's law of the countdown: DiskCountdown. -/
import Derived.Test.YtfgggkheadfiaaaRLaw07a
namespace Go.Proofs.YtfgggkheadfiaaaR
open Go Go.RowKit
attribute [local go_sem ↓] Go.wp_at_zero Go.wp_at_succ

/-- Sheet, at numbers. -/
theorem sheet_int (x s : Int) (hx : 0 ≤ x ∧ x ≤ 255) (hs : 0 ≤ s ∧ s ≤ 255) (w : World) (o : Own) :
    Calls Try.prog 23 #[.int .u8 x, .int .u8 s] w (Ret Nobody w o fun v w' o' => NewB w w' o' v (sheetL (UInt8.ofNat x.toNat) (UInt8.ofNat s.toNat) 512)) := by
  have h := sheet_any (UInt8.ofNat x.toNat) (UInt8.ofNat s.toNat) w o
  have e1 : ((UInt8.ofNat x.toNat).toNat : Int) = x := by rw [UInt8.toNat_ofNat']; omega
  have e2 : ((UInt8.ofNat s.toNat).toNat : Int) = s := by rw [UInt8.toNat_ofNat']; omega
  rw [e1, e2] at h
  exact h

namespace DiskM
/-- A disk of two pages with power. -/
def two (d : DiskM) (left : Int) (most : Nat) : Prop := d.dead = false ∧ d.left = left ∧ d.pages.length = 2 ∧ d.row.length ≤ most
theorem two_bad {d : DiskM} {n : Int} {m : Nat} (h : d.two n m) (at' : Int) (l : List UInt8) (hb : at' < 0 ∨ 2 ≤ at' ∨ l.length ≠ 512) : d.write at' l = (d, 1) := by
  obtain ⟨h1, h2, h3, h4⟩ := h
  have ha : d.asked at' l.length = 1 := by
    unfold asked
    rw [h1, h3]
    simp only [Bool.false_eq_true, if_false]
    rw [if_pos (by omega)]
  simp [write, ha, counted]
theorem two_ok {d : DiskM} {n : Int} {m : Nat} (h : d.two n m) (hn : 0 < n) (at' : Int) (l : List UInt8) (hb : 0 ≤ at' ∧ at' < 2 ∧ l.length = 512) : ∃ d', d.write at' l = (d', 0) ∧ d'.two (n - 1) (m + 1) := by
  obtain ⟨h1, h2, h3, h4⟩ := h
  have ha : d.asked at' l.length = 0 := by
    unfold asked
    rw [h1, h3]
    simp only [Bool.false_eq_true, if_false]
    rw [if_neg (by omega)]
  have hc : d.counted 0 = ({ d with left := d.left - 1 }, 0) := by
    unfold counted
    rw [if_neg (by omega), if_neg (by omega)]
  refine ⟨{ d with row := d.row ++ [(at'.toNat, l)], left := d.left - 1 }, by simp [write, ha, hc], h1, ?_, h3, ?_⟩
  · show d.left - 1 = n - 1; omega
  · show (d.row ++ [(at'.toNat, l)]).length ≤ m + 1; rw [List.length_append]; simp; omega
theorem two_sync {d : DiskM} {n : Int} {m : Nat} (h : d.two n m) (hn : 0 < n) : ∃ d', d.sync = (d', 0) ∧ d'.two (n - 1) (m + 1) := by
  obtain ⟨h1, h2, h3, h4⟩ := h
  have ha : d.asked 0 512 = 0 := by
    unfold asked
    rw [h1, h3]
    simp
  have hc : d.counted 0 = ({ d with left := d.left - 1 }, 0) := by
    unfold counted
    rw [if_neg (by omega), if_neg (by omega)]
  refine ⟨({ d with left := d.left - 1 } : DiskM).done fun _ => 512, by simp [sync, ha, hc], h1, ?_, ?_, by simp [done]⟩
  · show d.left - 1 = n - 1; omega
  have : ∀ (row : List (Nat × List UInt8)) (k : Nat) (q : List (List UInt8)), ((row.zipIdx k).foldl (doneOne fun _ => 512) q).length = q.length := by
    intro row
    induction row with
    | nil => intro k q; rfl
    | cons x r ih => intro k q; rw [List.zipIdx_cons, List.foldl_cons, ih]; simp [doneOne]
  show (donePages _ d.pages d.row).length = 2
  rw [donePages, this, h3]
theorem two_end {d : DiskM} {m : Nat} (h : d.two 0 m) : d.sync = ({ d with dead := true }, 9) := by
  obtain ⟨h1, h2, h3, h4⟩ := h
  have ha : d.asked 0 512 = 0 := by
    unfold asked
    rw [h1, h3]
    simp
  have hc : d.counted 0 = ({ d with dead := true }, 9) := by
    unfold counted
    rw [if_neg (by omega), if_pos h2]
  simp [sync, ha, hc]
theorem dead_read {d : DiskM} (h : d.dead = true) (at' : Int) : d.read at' = ([], 9) := by
  have ha : d.asked at' 512 = 9 := by unfold asked; rw [h]; rfl
  simp [read, ha]
theorem dead_write {d : DiskM} (h : d.dead = true) (at' : Int) (l : List UInt8) : d.write at' l = (d, 9) := by
  have ha : d.asked at' l.length = 9 := by unfold asked; rw [h]; rfl
  simp [write, ha, counted]
theorem dead_sync {d : DiskM} (h : d.dead = true) : d.sync = (d, 9) := by
  have ha : d.asked 0 512 = 9 := by unfold asked; rw [h]; rfl
  simp [sync, ha, counted]
end DiskM

set_option maxRecDepth 100000 in
set_option maxHeartbeats 3200000 in
theorem countdown_walk (a0 a1 : Int) (h0 : 0 ≤ a0 ∧ a0 ≤ 255) (h1 : 0 ≤ a1 ∧ a1 ≤ 18446744073709551615) (w : World) (o : Own) : Calls Try.prog 4 #[.int .u8 a0, .int .u64 a1] w (Ret Nobody w o fun v _ _ => v = .bool true) := by
  obtain ⟨k, hk⟩ : ∃ k : Nat, a0 % 40 = (k : Int) := ⟨(a0 % 40).toNat, by omega⟩
  have hk40 : k < 40 := by omega
  have hk0 : (k : Int) ≤ 9223372036854775807 := by omega
  have h01 := h0.1
  have h02 := h0.2
  have h11 := h1.1
  have h12 := h1.2
  clear h0 h1
  obtain ⟨D, hD0, hDf⟩ := fresh_tag o w.heap.size 0
  have hD : D ≠ 0 := by omega
  have hN : ¬ Only D 0 := fun h => hD h.symm
  clear hD0
  go_enter Try.func4, Try.ntmps4
  go_wp2_with fail
  refine (new_is (o := o) 2 D (by omega) (by omega) wk0n).mono ?_; rintro e wc ⟨v, oc, rfl, hst, p, hp, rfl, hd⟩; have hst := hst.only D
  go_wp2_with fail
  refine (fuse_any hd (k : Int) hk0).mono ?_; rintro e wc ⟨v, oc, rfl, hs, rfl, hd⟩; have hst := hst.trans hs
  have hfu : (wk0.fuse (k : Int)).two k 0 := by
    have e0 : wk0.dead = false ∧ wk0.pages.length = 2 ∧ wk0.row.length = 0 := by decide +kernel
    have e1 : wk0.fuse (k : Int) = { wk0 with left := max (-1) (k : Int) } := by simp [DiskM.fuse, e0.1]
    rw [e1]
    exact ⟨e0.1, by show max (-1) (k : Int) = k; omega, e0.2.1, by show wk0.row.length ≤ 0; omega⟩
  generalize wk0.fuse (k : Int) = df at *
  go_wp2_with fail
  go_loopw [8] (fun i wr => ∃ (j : Nat) (oj : Own) (dj : DiskM), j ≤ k ∧ i = .int .i64 j ∧ DiskAt wr oj D p dj ∧ Step (Only D) w o wr oj ∧ dj.two ((k : Int) - j) j)
    (fun i _ => k - (intOf i).toNat)
  case atStart => exact ⟨0, oc, df, Nat.zero_le _, rfl, hd, hst, by simpa using hfu⟩
  case round =>
    clear hd hst hfu hs
    obtain ⟨j, oj, dj, hj, rfl, hd, hst, h2'⟩ := hrel
    have h2 : dj.two ((k : Int) - j) j := h2'
    clear h2'
    by_cases hlt : j < k
    · have hrow : dj.row.length ≤ 1000000 := by have := h2.2.2.2; omega
      have hdead : dj.dead = false := h2.1
      have hpos : (0 : Int) < (k : Int) - j := by omega
      have hb1 := DiskM.two_bad h2 2 (sheetL 1 0 512) (by omega)
      have hb2 := DiskM.two_bad h2 0 [] (by simp)
      obtain ⟨ds, hds, hts⟩ := DiskM.two_sync h2 hpos
      have hdw := DiskM.two_ok h2 hpos 1
      have HT := hidden h2
      have HB1 := hidden hb1
      have HB2 := hidden hb2
      have HDS := hidden hds
      have HDW := hidden hdw
      have HTS := hidden hts
      have HDE := hidden hdead
      clear h2 hb1 hb2 hds hdw hts hdead
      go_wp2_with fail
      refine (sheet_any 1 0 _ oj).mono ?_; rintro e wc ⟨v, oc, rfl, hs, hb⟩; have hb := hb.bytes; have hd := hd.step hs (fun x => x); have hst := hst.trans (hs.only D)
      go_wp2_with fail
      refine (write_is hd hD hrow 2 _ _ hb HB1.out).mono ?_; rintro e wc ⟨v, oc, rfl, hs, rfl, hd⟩; have hst := hst.trans hs
      go_wp2_with fail
      refine (write_is hd hD hrow 0 _ _ (Bytes.nil _ _) HB2.out).mono ?_; rintro e wc ⟨v, oc, rfl, hs, rfl, hd⟩; have hst := hst.trans hs
      go_wp2_with fail
      refine (dead_any hd).mono ?_; rintro e w' ⟨rfl, rfl⟩; rw [HDE.out]
      go_wp2_with fail
      · refine (sync_is hd hrow HDS.out).mono ?_; rintro e wc ⟨v, oc, rfl, hs, rfl, hd⟩; have hst := hst.trans hs
        go_wp2_with fail
        go_roundw
        case rel => exact ⟨j + 1, oc, ds, by omega, by go_num, hd, hst, by have := HTS.out; rwa [show (k : Int) - ((j + 1 : Nat) : Int) = (k : Int) - j - 1 from by omega]⟩
        case measure => simp [intOf]; omega
      · refine (sheet_int _ 0 (by omega) (by omega) _ oc).mono ?_; rintro e wc ⟨v, oc, rfl, hs, hb⟩; have hb := hb.bytes; have hd := hd.step hs (fun x => x); have hst := hst.trans (hs.only D)
        obtain ⟨dw, hdw, htw⟩ := HDW.out _ ⟨by omega, by omega, length_sheetL _ _ _⟩
        have HDW2 := hidden hdw
        have HTW := hidden htw
        clear hdw htw
        go_wp2_with fail
        refine (write_is hd hD hrow 1 _ _ hb HDW2.out).mono ?_; rintro e wc ⟨v, oc, rfl, hs, rfl, hd⟩; have hst := hst.trans hs
        go_wp2_with fail
        go_roundw
        case rel => exact ⟨j + 1, oc, dw, by omega, by go_num, hd, hst, by have := HTW.out; rwa [show (k : Int) - ((j + 1 : Nat) : Int) = (k : Int) - j - 1 from by omega]⟩
        case measure => simp [intOf]; omega
    · have hjk : j = k := by omega
      subst hjk
      rw [Int.sub_self] at h2
      have hrow : dj.row.length ≤ 1000000 := by have := h2.2.2.2; omega
      have hend := DiskM.two_end h2
      have HE := hidden hend
      have hdead : ({ dj with dead := true } : DiskM).dead = true := rfl
      have hlen : ({ dj with dead := true } : DiskM).row.length = dj.row.length := rfl
      have hrow2 : ({ dj with dead := true } : DiskM).row.length ≤ 1000000 := hrow
      generalize hde : ({ dj with dead := true } : DiskM) = de at *
      have HDD := hidden hdead
      have HLN := hidden hlen
      clear hend hdead hlen hde h2
      go_wp2_with fail
      refine (waiting_any hd).mono ?_; rintro e w' ⟨rfl, rfl⟩
      go_wp2_with fail
      refine (sync_is hd hrow HE.out).mono ?_; rintro e wc ⟨v, oc, rfl, hs, rfl, hd⟩; have hst := hst.trans hs
      go_wp2_with fail
      refine (read_is hd hrow2 0 (DiskM.dead_read HDD.out 0)).mono ?_; rintro e wc ⟨v, oc, rfl, hs, vb, rfl, hn⟩; have hst := hst.trans (hs.only D); obtain rfl := np_nil hn; have hd := hd.step hs (fun x => x)
      go_wp2_with fail
      refine (dead_any hd).mono ?_; rintro e w' ⟨rfl, rfl⟩; rw [HDD.out]
      go_wp2_with fail
      refine (waiting_any hd).mono ?_; rintro e w' ⟨rfl, rfl⟩; rw [HLN.out]
      go_wp2_with fail
      refine (sheet_any 1 0 _ oc).mono ?_; rintro e wc ⟨v, oc, rfl, hs, hb⟩; have hb := hb.bytes; have hd := hd.step hs (fun x => x); have hst := hst.trans (hs.only D)
      go_wp2_with fail
      refine (write_is hd hD hrow2 0 _ _ hb (DiskM.dead_write HDD.out 0 _)).mono ?_; rintro e wc ⟨v, oc, rfl, hs, rfl, hd⟩; have hst := hst.trans hs
      go_wp2_with fail
      refine (wakes_any _ oc).mono ?_; rintro e wc ⟨v, oc, rfl, hs, rfl⟩; have hst := hst.trans (hs.only D)
      go_wp2_with fail
      go_ret
      exact ⟨_, oc, rfl, hst.nobody hDf, rfl⟩

end Go.Proofs.YtfgggkheadfiaaaR
