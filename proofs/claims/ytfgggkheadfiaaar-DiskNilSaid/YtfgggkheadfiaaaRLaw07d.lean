/- The disk's law of nil: DiskNil. -/
import Derived.Test.YtfgggkheadfiaaaRLaw07a
namespace Go.Proofs.YtfgggkheadfiaaaR
open Go Go.RowKit
attribute [local go_sem ↓] Go.wp_at_zero Go.wp_at_succ

namespace DiskM
def one (l : List UInt8) : DiskM := { new 1 with row := [(0, l)] }
theorem one_write (l : List UInt8) (hl : l.length = 512) : (new 1).write 0 l = (one l, 0) := by
  simp [write, asked, counted, new, one, hl]
theorem one_read (l : List UInt8) : (one l).read 0 = (l, 0) := by
  simp [read, asked, one, new, seen, seenIn]
end DiskM

theorem NewB.page {w w' : World} {o' : Own} {v : Value} {l : List UInt8} (h : NewB w w' o' v l) (hl : l.length = 512) : ∃ g cap cur, v = .slice (some ⟨g, 0, none⟩) 512 cap ∧ w.heap.size ≤ g ∧ w'.heap[g]? = some (.cells (cur : List Value).toArray 5 (0, 0)) ∧ cur.take 512 = bvs l ∧ o' g = (0, 0) := by
  obtain ⟨h1, h2⟩ := h
  rcases h1.2 with ⟨_, h0⟩ | ⟨g, cap, cur, rfl, hb, hg, _, _, _, htake⟩
  · omega
  · refine ⟨g, cap, cur.toList, by rw [hl], hb, by simpa using hg, ?_, h2 g rfl⟩
    rw [hl, Nat.mul_one] at htake; exact htake

set_option maxRecDepth 100000 in
set_option maxHeartbeats 3200000 in
theorem nil_walk (b : UInt8) (w : World) (o : Own) : Calls Try.prog 7 #[.int .u8 (b.toNat : Int)] w (Ret Nobody w o fun v _ _ => v = .bool true) := by
  have hbl : (sheetL b 0 512).length = 512 := length_sheetL _ _ _
  have hb3 : (sheetL b 0 512)[3]? = some b := by rw [sheetL_zero]; rfl
  have hb4 : (sheetL b 0 512)[4]? = some b := by rw [sheetL_zero]; rfl
  have H1 := hidden (DiskM.one_write _ hbl)
  have H2 := hidden (DiskM.one_read (sheetL b 0 512))
  have hr0 : (DiskM.new 1).row.length ≤ 1000000 := by decide +kernel
  have hr1 : (DiskM.one (sheetL b 0 512)).row.length ≤ 1000000 := by simp [DiskM.one]
  have hr1H := hidden hr1
  have hr0H := hidden hr0
  have hn1 : DiskM.new 1 = DiskM.new 1 := rfl
  generalize hdo : DiskM.one (sheetL b 0 512) = d1 at *
  generalize hl : sheetL b 0 512 = l at *
  have hlH := hidden hl
  have hblH := hidden hbl
  have hb3H := hidden hb3
  have hb4H := hidden hb4
  clear hdo hl hbl hb3 hb4 hr0 hr1 hn1
  obtain ⟨D, hD0, hDf⟩ := fresh_tag o w.heap.size 0
  have hD : D ≠ 0 := by omega
  have hN : ¬ Only D 0 := fun h => hD h.symm
  clear hD0
  go_enter Try.func7, Try.ntmps7
  go_wp2_with fail
  refine (fuse_nil _ _).mono ?_; rintro e w' ⟨rfl, rfl⟩
  go_wp2_with fail
  refine (kill_nil _).mono ?_; rintro e w' ⟨rfl, rfl⟩
  go_wp2_with fail
  refine (restart_nil _ _ _ _ o).mono ?_; rintro e wc ⟨v, oc, rfl, hst, rfl⟩; have hst := hst.only D
  go_wp2_with fail
  refine (read_nil _ _).mono ?_; rintro e w' ⟨rfl, rfl⟩
  go_wp2_with fail
  refine (write_nil _ oc _ _ _ (Bytes.nil _ _)).mono ?_; rintro e w' ⟨rfl, rfl⟩
  go_wp2_with fail
  refine (sync_nil _).mono ?_; rintro e w' ⟨rfl, rfl⟩
  go_wp2_with fail
  refine (dead_nil _).mono ?_; rintro e w' ⟨rfl, rfl⟩
  go_wp2_with fail
  refine (size_nil _).mono ?_; rintro e w' ⟨rfl, rfl⟩
  go_wp2_with fail
  refine (waiting_nil _).mono ?_; rintro e w' ⟨rfl, rfl⟩
  go_wp2_with fail
  refine (new_is (o := oc) 1 D (by omega) (by omega) rfl).mono ?_; rintro e wc ⟨v, oc, rfl, hs, p, hp, rfl, hd⟩; have hst := hst.trans (hs.only D)
  go_wp2_with fail
  refine (sheet_any b 0 _ oc).mono ?_; rintro e wc ⟨v, oc, rfl, hs, hb⟩; rw [hlH.out] at hb; have hd := hd.step hs (fun x => x); have hsz := hst.size; have hst := hst.trans (hs.only D)
  obtain ⟨g, cap, cur, rfl, hgw, hgh, hcur, hgo⟩ := hb.page hblH.out
  have hby := hb.bytes
  go_wp2_with fail
  refine (write_is hd hD hr0H.out 0 _ _ hby H1.out).mono ?_; rintro e wc ⟨v, oc, rfl, hs, rfl, hd⟩; have hst := hst.trans hs
  have hgl := lt_of_block hgh
  have hgh2 : wc.heap[g]? = some (.cells cur.toArray 5 (0, 0)) := by rw [hs.block g hgl (by rw [hgo]; exact hN)]; exact hgh
  have hgo2 : oc g = (0, 0) := by rw [hs.own g hgl]; exact hgo
  have hc3 : wc.cell? ⟨g, 3, none⟩ = some (.int .u8 (b.toNat : Int)) := by
    rw [cell_of_block hgh2 3]
    have : (cur.take 512)[3]? = some (bv b) := by rw [hcur, get_bvs, hb3H.out]; rfl
    rwa [List.getElem?_take, if_pos (by omega)] at this
  have hf3 := free_of_block hgh2 3
  have hgw2 : w.heap.size ≤ g := by omega
  have hset := fun x => (Step.refl (Only 0) wc oc).setCell (a := ⟨g, 3, none⟩) x (.inl (by rw [hgo2]; rfl))
  have hset2 := fun x => hst.setCell (a := ⟨g, 3, none⟩) x (.inr hgw2)
  have hdall := fun x => hd.step (hset x) (fun h => hD h)
  have HS2 := hidden hset2
  have HDA := hidden hdall
  clear hset hset2 hdall hst hd hb hby hgh hgh2 hcur hgo hs
  go_wp2_with fail
  have hst := HS2.out
  have hd := HDA.out
  refine (read_is (hd _) hr1H.out 0 H2.out).mono ?_; rintro e wc ⟨v, oc, rfl, hs, vb, rfl, hn⟩; have hst := (hst _).trans (hs.only D); obtain ⟨b1, rfl, hx1, hbw, hbh⟩ := np_page hn hblH.out; have hd := (hd _).step hs (fun x => x)
  have y3 := hx1.cell 3 hb3H.out
  have y4 := hx1.cell 4 hb4H.out
  have hfy := free_of_block hbh.out.1 4
  have hszz := hst.size
  have hset := fun x => (Step.refl (Only 0) wc oc).setCell (a := ⟨b1, 4, none⟩) x (.inl (by rw [hbh.out.2]; rfl))
  have hb1w : w.heap.size ≤ b1 := by have h1 := HS2.out (.bool true); have := h1.size; simp at this hbw; omega
  have hset2 := fun x => hst.setCell (a := ⟨b1, 4, none⟩) x (.inr hb1w)
  have hdall := fun x => hd.step (hset x) (fun h => hD h)
  have HS3 := hidden hset2
  have HDB := hidden hdall
  clear hset hset2 hdall hst hd hs HS2 HDA hc3 hf3
  go_wp2_with fail
  have hst := HS3.out
  have hd := HDB.out
  refine (read_is (hd _) hr1H.out 0 H2.out).mono ?_; rintro e wc ⟨v, oc, rfl, hs, vb, rfl, hn⟩; have hst := (hst _).trans (hs.only D); obtain ⟨b2, rfl, hx2, hbw2, hbh2⟩ := np_page hn hblH.out
  have z4 := hx2.cell 4 hb4H.out
  clear y3 y4 hfy
  go_wp2_with fail
  refine (wakes_any _ oc).mono ?_; rintro e wc ⟨v, oc, rfl, hs, rfl⟩; have hst := hst.trans (hs.only D)
  go_wp2_with fail
  go_ret
  exact ⟨_, oc, rfl, hst.nobody hDf, rfl⟩

end Go.Proofs.YtfgggkheadfiaaaR
