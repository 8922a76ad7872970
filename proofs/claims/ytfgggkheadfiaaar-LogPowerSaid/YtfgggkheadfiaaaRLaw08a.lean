/- The laws of layer 8: a new log; 'wakes', the example that each of them ends with. -/
import Derived.Test.YtfgggkheadfiaaaRLog18
import Derived.Test.YtfgggkheadfiaaaRLogP4
import Derived.Test.YtfgggkheadfiaaaRLaw07a
import Derived.Lib.SlBytesConst
namespace Go.Proofs.YtfgggkheadfiaaaR
open Go Go.RowKit
attribute [local go_sem ↓] Go.wp_at_zero Go.wp_at_succ

theorem seen_new (k : Nat) : LogM.seenPages (DiskM.new k) 0 k = List.replicate k DiskM.blank := by
  refine LogM.seenPages_ext (by simp) fun j hj => ?_
  rw [List.getElem?_replicate, if_pos hj]
  simp [DiskM.seen, DiskM.seenIn, DiskM.new, hj]
theorem blank_num : num (DiskM.blank.take 8) = 0#64 ∧ num (DiskM.blank.drop 504) = 0#64 := by decide +kernel
theorem newest_blank : ∀ k, LogM.newest (List.replicate k DiskM.blank) = 0#64
  | 0 => rfl
  | k + 1 => by
    have h := newest_blank k
    rw [List.replicate_succ']
    unfold LogM.newest at *
    rw [List.foldl_append, h]
    simp only [List.foldl_cons, List.foldl_nil, blank_num.1, blank_num.2]
    decide
theorem leaves_blank (k : Nat) : LogM.leavesOf (List.replicate k DiskM.blank) = [] := by
  cases k with
  | zero => rfl
  | succ k =>
    have h : (saidL DiskM.blank).2 = false := by unfold saidL; rw [if_pos (.inl blank_num.1)]
    unfold LogM.leavesOf
    rw [List.replicate_succ, List.takeWhile_cons_of_neg (by simp [h])]; rfl
theorem ofPages_blank (k : Nat) : LogM.ofPages 0 (List.replicate k DiskM.blank) = LogM.raw 0 k 0 := by
  unfold LogM.ofPages LogM.raw
  rw [leaves_blank, newest_blank, List.length_replicate]; rfl
theorem new_up {k : Nat} (h2 : 2 ≤ k) : LogM.Up (LogM.raw 0 k 0, DiskM.new k) :=
  ⟨rfl, rfl, by show (-1 : Int) < 0; omega, by show 0 + k ≤ (List.replicate k DiskM.blank).length; simp, h2, Nat.le_refl _, by show 1 ≤ k; omega, rfl⟩

set_option maxRecDepth 100000 in
set_option maxHeartbeats 1600000 in
theorem made_is {w : World} {o : Own} {L D : Nat} (hL : L ≠ 0) (hD : D ≠ 0) (hLD : L ≠ D) (k : Nat) (h2 : 2 ≤ k) (hk : k ≤ 2000) :
    Calls Try.prog 47 #[.int .i64 (k : Int)] w (Ret (Only L) w o fun v w' o' => ∃ pd p, w.heap.size ≤ pd ∧ w.heap.size ≤ p ∧ v = .tuple #[.pointer (some ⟨pd, 0, none⟩), .pointer (some ⟨p, 0, none⟩)] ∧ LD w' o' L D p pd (LogM.raw 0 k 0, DiskM.new k)) := by
  have hnew := new_ok k w o D (by omega) (by omega)
  go_enter Try.func47, Try.ntmps47
  go_wp2_with fail
  refine hnew.mono ?_; rintro e W1 ⟨v1, o1, rfl, hs1, pd, hpd, rfl, hd⟩
  have ho := open_yes hL hD hLD hd (by simp [DiskM.new]) rfl 0 k h2 hk (by simp [DiskM.new])
  rw [show ((0 : Nat) : Int) = 0 from rfl, seen_new] at ho
  clear hnew
  go_wp2_with fail
  refine ho.mono ?_; rintro e W2 ⟨v2, o2, rfl, hs2, hop⟩
  obtain ⟨p, hp, rfl, hl⟩ := hop.2 (by rw [newest_blank]; decide)
  rw [ofPages_blank] at hl
  have hd2 := hd.step hs2 (fun e => hLD e.symm)
  have hst := (hs1.only L).trans hs2
  have hsz := hs1.size
  clear ho hop
  go_wp2_with fail
  go_ret2
  exact ⟨_, o2, rfl, hst, pd, p, hpd, by omega, rfl, hl, hd2⟩

/-- Batches, as a law reads it. -/
theorem batches_is {w : World} {o : Own} {L p pd : Nat} {m : LogM} (h : LogAt w o L p pd m) (rs : List (List UInt8)) (hrs : m.records = rs) :
    Calls Try.prog 51 #[.pointer (some ⟨p, 0, none⟩)] w (Ret Nobody w o fun v w' o' => ∃ vs, w'.ownsRow w.heap.size 28 1 v rs.length vs ∧ RowsN w w' vs rs ∧ RowsB w' o' vs rs ∧ ∀ k, w.heap.size ≤ k → o' k = (0, 0)) := by
  refine (batches_any h).mono ?_
  rintro e w' ⟨v, vs, rfl, hb, hown, hrows⟩
  rw [hrs] at hown hrows
  have hs : Step Nobody w o w' (ext w o) := ⟨hb.os, hb.tape, hb.output, hb.size, fun k hk => if_pos hk, fun k hk _ => hb.block k hk⟩
  refine ⟨v, ext w o, rfl, hs, vs, hown, hrows, ⟨hrows.1, fun i x l hx hl => ?_⟩, fun k hk => if_neg (by omega)⟩
  have h1 := hrows.2 i x l hx hl
  exact own_bytes h1 (fun k hk => by unfold ext; rw [if_neg (by have := (h1.lt k hk).1; omega)])
theorem ownsRow_cell {w : World} {base : Nat} {v : Value} {n : Nat} {vs : List Value} (h : w.ownsRow base 28 1 v n vs) {i : Nat} {x : Value} (hx : vs[i]? = some x) : ∃ g c, v = .slice (some ⟨g, 0, none⟩) n c ∧ base ≤ g ∧ g < w.heap.size ∧ w.cell? ⟨g, i, none⟩ = some x := by
  have hi := (List.getElem?_eq_some_iff.1 hx).1
  rcases h.2 with ⟨_, h0⟩ | ⟨g, cap, cur, rfl, h1, h2, h3, h4, h5, h6⟩
  · have := h.1; omega
  · refine ⟨g, cap, rfl, h1, lt_of_block h2, ?_⟩
    rw [cell_of_block (cs := cur.toList) (E := 28) (fr := (0, 0)) (by simpa using h2)]
    rw [← h6, List.getElem?_take] at hx
    split at hx
    · exact hx
    · cases hx
/-- make([]byte, n). -/
theorem make_bytes (w : World) (n : Nat) (hn : n ≤ 1000000) : (Instr.makeSlice 28 (.int .i64 (n : Int)) (.int .i64 (n : Int))).run Try.prog w = .ok (.slice (some ⟨w.heap.size, 0, none⟩) n n) (w.alloc (.cells (bvs (List.replicate n 0)).toArray 5)) := by
  have hmk := run_make_zero (P := Try.prog) w 28 5 _ 1 1 Try.underlying28 inf5 rfl n (by omega) (by omega) .i64 .i64
  have hf : ∀ n : Nat, (List.replicate n [Value.int .u8 0]).flatten = bvs (List.replicate n 0) := by
    intro n
    induction n with
    | zero => rfl
    | succ n ih => rw [List.replicate_succ, List.replicate_succ, List.flatten_cons, ih]; rfl
  rw [hf] at hmk
  exact hmk
theorem bytes_marked (w : World) (o : Own) (l : List UInt8) (hl : l.length ≤ 1000000) : Bytes (w.alloc (.cells (bvs l).toArray 5 (l.length, l.length + 1))) (tagAt o w.heap.size (0, 0)) (.slice (some ⟨w.heap.size, 0, none⟩) l.length l.length) l :=
  .inr ⟨w.heap.size, 0, l.length, rfl, Nat.le_refl _, by simp [maxLen]; omega, by rw [tagAt_same], by simp, range_whole (fr := (l.length, l.length + 1)) (heap_alloc_new w _)⟩
/-- []byte("..."). -/
theorem conv_marked (w : World) (cs : List Value) (n c : Nat) : (convert 28 28 (.slice (some ⟨w.heap.size, 0, none⟩) n c)).run Try.prog (w.alloc (.cells cs.toArray 5)) = .ok (.slice (some ⟨w.heap.size, 0, none⟩) n c) (w.alloc (.cells cs.toArray 5 (cs.length, cs.length + 1))) := by
  have := Go.Lib.run_convert_bytes_const (P := Try.prog) w 28 5 cs.toArray n c Try.underlying28 Try.underlying5
  simpa using this
theorem room_is {w : World} {o : Own} {L p pd : Nat} {m : LogM} (h : LogAt w o L p pd m) (r : Nat) (hr : m.room = r) : Calls Try.prog 48 #[.pointer (some ⟨p, 0, none⟩)] w (Ret Nobody w o fun v _ _ => v = .int .i64 (r : Int)) := by
  have := room_any h; rw [hr] at this; exact this
theorem commit_is {w : World} {o : Own} {L D p pd : Nat} {s s' : LogM × DiskM} {e : Int} (hL : L ≠ 0) (hD : D ≠ 0) (hLD : L ≠ D) (h : LD w o L D p pd s) (hrow : s.2.row.length ≤ 700000) (b : List UInt8) (bv : Value) (hb : Bytes w o bv b) (hcapb : capLe bv) (hblen : b.length ≤ 200000000000000) (he : LogM.commit b s = (s', e)) :
    Calls Try.prog 40 #[.pointer (some ⟨p, 0, none⟩), bv] w (Ret (In L D) w o fun v w' o' => v = .int .i64 e ∧ LD w' o' L D p pd s') := by
  have := commit_any hL hD hLD h hrow b bv hb hcapb hblen; rw [he] at this; exact this
theorem reset_is {w : World} {o : Own} {L D p pd : Nat} {s s' : LogM × DiskM} {e : Int} (hL : L ≠ 0) (hD : D ≠ 0) (hLD : L ≠ D) (h : LD w o L D p pd s) (hrow : s.2.row.length ≤ 700000) (he : LogM.reset s = (s', e)) :
    Calls Try.prog 43 #[.pointer (some ⟨p, 0, none⟩)] w (Ret (In L D) w o fun v w' o' => v = .int .i64 e ∧ LD w' o' L D p pd s') := by
  have := reset_any hL hD hLD h hrow; rw [he] at this; exact this
theorem Step.nobody2 {L D : Nat} {w w1 : World} {o o1 : Own} (h : Step (In L D) w o w1 o1) (hL : ∀ k, k < w.heap.size → (o k).1 ≠ L) (hD : ∀ k, k < w.heap.size → (o k).1 ≠ D) : Step Nobody w o w1 o1 :=
  ⟨h.os, h.tape, h.output, h.size, h.own, fun k hk _ => h.block k hk (fun hx => by rcases hx with hx | hx; exact hL k hk hx; exact hD k hk hx)⟩

set_option maxRecDepth 100000 in
set_option maxHeartbeats 3200000 in
theorem wakes8_any (w : World) (o : Own) : Calls Try.prog 37 #[] w (Ret Nobody w o fun v _ _ => v = .bool true) := by
  obtain ⟨D, hD0, hDf⟩ := fresh_tag o w.heap.size 0
  have hD : D ≠ 0 := by omega
  obtain ⟨L, hL0, hLf⟩ := fresh_tag o w.heap.size D
  have hL : L ≠ 0 := by omega
  have hLD : L ≠ D := by omega
  clear hD0 hL0
  -- the states
  obtain ⟨s0, hs0⟩ : ∃ s0, (LogM.raw 0 4 0, DiskM.new 4) = s0 := ⟨_, rfl⟩
  have hU0 : LogM.Up s0 := by rw [← hs0]; exact new_up (by omega)
  have h0n : s0.1.n = 4 := by rw [← hs0]; rfl
  have h0e : s0.1.end' = 1 := by rw [← hs0]; rfl
  have h0r : s0.1.records = [] := by rw [← hs0]; rfl
  obtain ⟨s1, c1, hU1, r1, e1, n1, -, -⟩ := LogM.commit_up hU0 [97, 98, 99] (by rw [h0n, h0e]; decide)
  rw [h0r] at r1
  rw [h0e, show LogM.many [97, 98, 99] = 1 from by decide] at e1
  rw [h0n] at n1
  have hm2 : LogM.many (List.replicate 960 0) = 2 := by unfold LogM.many; rw [List.length_replicate]; decide
  obtain ⟨s2, c2, hU2, r2, e2, n2, -, -⟩ := LogM.commit_up hU1 (List.replicate 960 0) (by rw [n1, e1, hm2]; omega)
  rw [e1, hm2] at e2
  rw [n1] at n2
  have c3 := LogM.commit_full hU2.ld hU2.dd [] (by rw [n2, e2]; decide)
  obtain ⟨s3, c4, hU3, r4, e4, n4, -, -⟩ := LogM.reset_up hU2
  rw [n2] at n4
  have m0 : s0.1.room = 1440 := by unfold LogM.room; rw [h0n, h0e]
  have m1 : s1.1.room = 960 := by unfold LogM.room; rw [n1, e1]
  have m3 : s3.1.room = 1440 := by unfold LogM.room; rw [n4, e4]
  have w0 : s0.2.row.length ≤ 700000 := by rw [hU0.row]; simp
  have w1 : s1.2.row.length ≤ 700000 := by rw [hU1.row]; simp
  have w2 : s2.2.row.length ≤ 700000 := by rw [hU2.row]; simp
  have hmade := made_is (w := w) (o := o) hL hD hLD 4 (by omega) (by omega)
  rw [hs0] at hmade
  clear hs0 hU0 h0n h0e h0r hU1 e1 n1 hm2 hU2 e2 n2 hU3 e4 n4 r2
  go_enter Try.func37, Try.ntmps37
  go_wp2_with fail
  refine hmade.mono ?_; rintro e wc ⟨v, oc, rfl, hst, pd, p, -, -, rfl, hld⟩
  have hst := hst.inL (D := D)
  clear hmade
  go_wp2_with fail
  refine (room_is hld.1 1440 m0).mono ?_; rintro e wc' ⟨v, oc', rfl, hs, rfl⟩
  have hld := hld.step hs (fun h => h) (fun h => h) (fun h => h)
  have hst := hst.trans hs.in0
  have hsa := (Step.refl Nobody wc' oc').alloc (.cells (bvs [97, 98, 99]).toArray 5 (3, 4)) (0, 0)
  have hba := bytes_marked wc' oc' [97, 98, 99] (by decide)
  have hca := (commit_is hL hD hLD (hld.step hsa (fun h => h) (fun h => h) (fun h => h)) w0 [97, 98, 99] _ hba (fun a n c h => by cases h; decide) (by decide) c1)
  have hst := hst.trans hsa.in0
  have hbv : bvs [97, 98, 99] = [.int .u8 97, .int .u8 98, .int .u8 99] := rfl
  rw [hbv] at hsa hba hca hst
  have hcv : (convert 28 28 (.slice (some ⟨wc'.heap.size, 0, none⟩) 3 3)).run Try.prog (wc'.alloc (.cells #[.int .u8 97, .int .u8 98, .int .u8 99] 5)) = .ok (.slice (some ⟨wc'.heap.size, 0, none⟩) 3 3) (wc'.alloc (.cells #[.int .u8 97, .int .u8 98, .int .u8 99] 5 (3, 4))) := conv_marked wc' [.int .u8 97, .int .u8 98, .int .u8 99] 3 3
  clear hba hsa hs hld
  go_wp2_with fail
  refine hca.mono ?_; rintro e wc ⟨v, oc, rfl, hs, rfl, hld⟩
  have hst := hst.trans hs
  clear hca
  go_wp2_with fail
  refine (room_is hld.1 960 m1).mono ?_; rintro e wc' ⟨v, oc', rfl, hs, rfl⟩
  have hld := hld.step hs (fun h => h) (fun h => h) (fun h => h)
  have hst := hst.trans hs.in0
  go_wp2_with fail
  refine (batches_is hld.1 _ r1).mono ?_; rintro e wc ⟨v, oc, rfl, hs, vs, hown, -, hrb, -⟩
  have hld := hld.step hs (fun h => h) (fun h => h) (fun h => h)
  have hst := hst.trans hs.in0
  simp only [List.nil_append] at hown hrb
  obtain ⟨x, hx⟩ : ∃ x, vs[0]? = some x := by
    have := hrb.1; exact ⟨_, List.getElem?_eq_getElem (by rw [this]; decide)⟩
  obtain ⟨g, c, rfl, -, -, hgc⟩ := ownsRow_cell hown hx
  have hcv := conv_string (hrb.2 0 x _ hx rfl)
  have hmk : (Instr.makeSlice 28 (.int .i64 960) (.int .i64 960)).run Try.prog wc = .ok (.slice (some ⟨wc.heap.size, 0, none⟩) 960 960) (wc.alloc (.cells (bvs (List.replicate 960 0)).toArray 5)) := make_bytes wc 960 (by omega)
  have hsa := (Step.refl Nobody wc oc).alloc (.cells (bvs (List.replicate 960 0)).toArray 5) (0, 0)
  have hba := bytes_new wc oc (List.replicate 960 0) (by simp)
  have hld1 := hld.step hsa (fun h => h) (fun h => h) (fun h => h)
  have hst := hst.trans hsa.in0
  rw [List.length_replicate] at hba
  have hca := (commit_is hL hD hLD hld1 w1 (List.replicate 960 0) _ hba (fun a n c h => by cases h; decide) (by rw [List.length_replicate]; decide) c2)
  generalize List.replicate 960 (0 : UInt8) = zs at *
  clear hrb hown hx hld hba hsa hs hld1
  go_wp2_with fail
  refine hca.mono ?_; rintro e wc ⟨v, oc, rfl, hs, rfl, hld⟩
  have hst := hst.trans hs
  have hcn := commit_is hL hD hLD hld w2 [] (.slice none 0 0) (Bytes.nil _ _) (fun a n c h => by cases h; decide) (by decide) c3
  clear hca hs hmk hcv
  go_wp2_with fail
  refine hcn.mono ?_; rintro e wc ⟨v, oc, rfl, hs, rfl, hld⟩
  have hst := hst.trans hs
  have hrs := reset_is hL hD hLD hld w2 c4
  clear hcn hs
  go_wp2_with fail
  refine hrs.mono ?_; rintro e wc ⟨v, oc, rfl, hs, rfl, hld⟩
  have hst := hst.trans hs
  have hbt := batches_is hld.1 _ r4
  clear hrs hs
  go_wp2_with fail
  refine hbt.mono ?_; rintro e wc' ⟨v, oc', rfl, hs, vs, hown, -, hrb, -⟩
  obtain ⟨va, vc, rfl⟩ := own_form hown
  have hld := hld.step hs (fun h => h) (fun h => h) (fun h => h)
  have hst := hst.trans hs.in0
  have hrm := room_is hld.1 1440 m3
  clear hbt hs hown hrb
  go_wp2_with fail
  refine hrm.mono ?_; rintro e wc ⟨v, oc, rfl, hs, rfl⟩
  have hst := (hst.trans hs.in0).nobody2 hLf hDf
  clear hrm hs
  go_wp2_with fail
  go_ret
  exact ⟨_, oc, rfl, hst, rfl⟩
end Go.Proofs.YtfgggkheadfiaaaR
