/- The walk of the law DiskRow: a disk and the document's disk answer alike, whatever the acts. -/
import Derived.Test.YtfgggkheadfiaaaRRef07d
namespace Go.Proofs.YtfgggkheadfiaaaR
open Go Go.RowKit
attribute [local go_sem ↓] Go.wp_at_zero Go.wp_at_succ

theorem wpAnyN_mono {P : Program} {ops : Array Oper} {Q : Exit → Act → World → Prop} {md : Region.Mode} {S S2 : World → Prop} {need need2 : Nat → Bool} (h : ∀ i w, (need2 i = true → S2 w) → (need i = true → S w)) :
    ∀ (fuel : Nat) (listed : Array Bool) (a : Act) (w : World), wpAnyN P md ops Q S2 need2 fuel listed a w → wpAnyN P md ops Q S need fuel listed a w
  | 0, _, _, _, H => H
  | fuel + 1, _, _, _, H => ⟨H.1, fun i hi => wpOp_mono (fun a' w' h' => ⟨h i w' h'.1, wpAnyN_mono h fuel _ a' w' h'.2⟩) (H.2 i hi)⟩

/-- Blocks of the objects D and D + 1. -/
def Two (D : Nat) : Nat → Prop := fun k => k = D ∨ k = D + 1
theorem Step.two {D : Nat} {w w' : World} {o o' : Own} (h : Step (Only D) w o w' o') : Step (Two D) w o w' o' := h.mono fun _ x => .inl x
theorem Step.two' {D : Nat} {w w' : World} {o o' : Own} (h : Step (Only (D + 1)) w o w' o') : Step (Two D) w o w' o' := h.mono fun _ x => .inr x
theorem Step.two0 {D : Nat} {w w' : World} {o o' : Own} (h : Step Nobody w o w' o') : Step (Two D) w o w' o' := h.mono fun _ x => x.elim
theorem Step.none {T : Nat → Prop} {w w' : World} {o o' : Own} (h : Step T w o w' o') (hT : ∀ k, k < w.heap.size → ¬ T (o k).1) : Step Nobody w o w' o' :=
  ⟨h.os, h.tape, h.output, h.size, h.own, fun k hk _ => h.block k hk (hT k hk)⟩
theorem fresh_two (o : Own) (n : Nat) : ∃ D, 0 < D ∧ ∀ k, k < n → ¬ Two D (o k).1 := by
  obtain ⟨M, h1, h2⟩ := tag_bound o 0 n
  refine ⟨M + 1, by omega, fun k hk hx => ?_⟩
  have := h2 k hk
  rcases hx with hx | hx <;> omega

theorem does7_row (d : DiskM) (a : Act7) : (d.does7 a).1.row.length ≤ d.row.length + 1 := by
  have hc : ∀ e, (d.counted e).1.row = d.row := fun e => (DiskM.counted_same d e).2
  have hw : ∀ (x : Int) (l : List UInt8), (d.write x l).1.row.length ≤ d.row.length + 1 := by
    intro x l
    unfold DiskM.write
    dsimp only
    split
    · rw [hc]; omega
    · simp [hc]
  have hsy : (d.sync).1.row.length ≤ d.row.length + 1 := by
    unfold DiskM.sync
    dsimp only
    split
    · rw [hc]; omega
    · simp [DiskM.done]
  unfold DiskM.does7
  split
  · exact hw _ _
  · split
    · exact hsy
    · split
      · unfold DiskM.fuse; dsimp only; split <;> simp
      · split
        · simp [DiskM.kill]
        · split
          · simp [DiskM.restart, DiskM.done]
          · exact hw _ _

theorem told7_is {w : World} {o : Own} {D p : Nat} {d d1 : DiskM} {e1 : Int} (h : RefAt w o D p d) (hD : D ≠ 0) (hrow : d.row.length ≤ 1000000) (a : Act7) (hok : a.ok) (hi : Ints w o a.fv a.fates) (he : Hid (d.does7 a = (d1, e1))) :
    Calls Try.prog 35 #[.pointer (some ⟨p, 0, none⟩), .agg a.cells.toArray] w (Ret (Only D) w o fun v w' o' => v = .int .i64 e1 ∧ RefAt w' o' D p d1) := by
  have := told7_any h hD hrow a hok hi
  rw [he.out] at this; exact this
theorem does7_is2 {w : World} {o : Own} {D p : Nat} {d d1 : DiskM} {e1 : Int} (h : DiskAt w o D p d) (hD : D ≠ 0) (hrow : d.row.length ≤ 1000000) (a : Act7) (hok : a.ok) (hi : Ints w o a.fv a.fates) (he : Hid (d.does7 a = (d1, e1))) :
    Calls Try.prog 31 #[.pointer (some ⟨p, 0, none⟩), .agg a.cells.toArray] w (Ret (Only D) w o fun v w' o' => v = .int .i64 e1 ∧ DiskAt w' o' D p d1) := by
  have := does7_any h hD hrow a hok hi
  rw [he.out] at this; exact this
theorem rread_is {w : World} {o : Own} {E p : Nat} {d : DiskM} {l : List UInt8} {e : Int} (h : RefAt w o E p d) (at' : Int) (hrow : d.row.length ≤ 1000000) (he : Hid (d.read at' = (l, e))) :
    Calls Try.prog 36 #[.pointer (some ⟨p, 0, none⟩), .int .i64 at'] w fun r w' => r = .returned (.tuple #[str l, .int .i64 e]) ∧ w = w' := by
  have := rread_any h at' hrow
  rw [he.out] at this; exact this

/-- Where the law does not look. -/
theorem row_many {w : World} {o : Own} {v : Value} {l : List Act7} (n : Int) (ha : Acts7 w o v l) (hm : 0 < many7 l ∨ (10 < n ∧ n ≤ 4096)) : Calls Try.prog 6 #[.int .i64 n, v] w (Ret Nobody w o fun v _ _ => v = .bool true) := by
  obtain ⟨aa, ac, rfl⟩ := ha.form
  by_cases h1 : 0 < many7 l
  · go_enter Try.func6, Try.ntmps6
    go_wp2_with fail
    refine (many7_any ha).mono ?_; rintro e w' ⟨rfl, rfl⟩
    go_wp2_with fail
    refine (wakes_any _ o).mono ?_; rintro e wc ⟨v, oc, rfl, hs, rfl⟩
    go_wp2_with fail
    go_ret
    exact ⟨_, oc, rfl, hs, rfl⟩
  · obtain ⟨h2, h3⟩ : 10 < n ∧ n ≤ 4096 := by omega
    clear hm
    go_enter Try.func6, Try.ntmps6
    go_wp2_with fail
    refine (many7_any ha).mono ?_; rintro e w' ⟨rfl, rfl⟩
    go_wp2_with fail
    refine (wakes_any _ o).mono ?_; rintro e wc ⟨v, oc, rfl, hs, rfl⟩
    go_wp2_with fail
    go_ret
    exact ⟨_, oc, rfl, hs, rfl⟩
theorem row_bad {w : World} {o : Own} {v : Value} {l : List Act7} (n : Int) (ha : Acts7 w o v l) (hm : ¬ 0 < many7 l) (hn : n < 1 ∨ 4096 < n) : Calls Try.prog 6 #[.int .i64 n, v] w (Ret Nobody w o fun v _ _ => v = .bool true) := by
  obtain ⟨aa, ac, rfl⟩ := ha.form
  have hnb := new_bad n w o hn
  rcases hn with hn | hn
  all_goals
    go_enter Try.func6, Try.ntmps6
    go_wp2_with fail
    refine (many7_any ha).mono ?_; rintro e w' ⟨rfl, rfl⟩
    go_wp2_with fail
    refine hnb.mono ?_; rintro e w' ⟨rfl, rfl⟩
    go_wp2_with fail
    refine (wakes_any _ o).mono ?_; rintro e wc ⟨v, oc, rfl, hs, rfl⟩
    go_wp2_with fail
    go_ret
    exact ⟨_, oc, rfl, hs, rfl⟩

set_option maxRecDepth 100000 in
set_option maxHeartbeats 6400000 in
theorem row_main {w : World} {o : Own} {v : Value} {l : List Act7} (n : Nat) (ha : Acts7 w o v l) (hm : ¬ 0 < many7 l) (hn1 : 1 ≤ n) (hn2 : n ≤ 10) : Calls Try.prog 6 #[.int .i64 (n : Int), v] w (Ret Nobody w o fun v _ _ => v = .bool true) := by
  obtain ⟨aa, ac, rfl⟩ := ha.form
  have hl80 : l.length ≤ 80 := by
    unfold many7 at hm
    split at hm
    · omega
    · omega
  have hlI : (l.length : Int) ≤ 80 := by omega
  obtain ⟨D, hD0, hDf⟩ := fresh_two o w.heap.size
  have hD : D ≠ 0 := by omega
  have hE : D + 1 ≠ 0 := by omega
  have hN : ¬ Two D 0 := by rintro (h | h) <;> omega
  have hND : ¬ Only D (D + 1) := by intro h; unfold Only at h; omega
  have hNE : ¬ Only (D + 1) D := by intro h; unfold Only at h; omega
  have hND0 : ¬ Only D 0 := by intro h; unfold Only at h; omega
  have hNE0 : ¬ Only (D + 1) 0 := by intro h; unfold Only at h; omega
  clear hD0
  have hn2I : ¬ (10 : Int) < (n : Int) := by omega
  have hn3 : ¬ (n : Int) < 1 := by omega
  have hn4 : ¬ (4096 : Int) < (n : Int) := by omega
  have hnp : (DiskM.new n).pages.length = n := by simp [DiskM.new]
  have hnr : (DiskM.new n).row.length = 0 := rfl
  go_enter Try.func6, Try.ntmps6
  go_wp2_with fail
  refine (many7_any ha).mono ?_; rintro e w' ⟨rfl, rfl⟩
  go_wp2_with fail
  refine (new_ok n _ o D hn1 (by omega)).mono ?_; rintro e wc ⟨v, oc, rfl, hs, p, hp, rfl, hd⟩; have hst := hs.two0 (D := D)
  go_wp2_with fail
  refine (rnew_any _ oc (D + 1) n hn1 (by omega)).mono ?_; rintro e wd ⟨v, od, rfl, hs, q, hq, rfl, hr⟩; have hst := hst.trans (hs.two0 (D := D)); have hd := hd.step hs (fun x => x)
  have hsz := size_any hd
  rw [hnp] at hsz
  go_wp2_with fail
  refine hsz.mono ?_; rintro e w' ⟨rfl, rfl⟩
  generalize DiskM.new n = d0 at *
  clear hsz hs hp hq
  go_wp2_with fail
  go_loopw [8] (fun i wr => ∃ (k : Nat) (oj : Own) (dj : DiskM), k ≤ l.length ∧ i = .int .i64 k ∧ DiskAt wr oj D p dj ∧ RefAt wr oj (D + 1) q dj ∧ Step (Two D) w o wr oj ∧ dj.row.length ≤ k)
    (fun i _ => l.length - (intOf i).toNat)
  case atStart => exact ⟨0, od, d0, Nat.zero_le _, rfl, hd, hr, hst, by omega⟩
  case round =>
    clear hd hst hr
    obtain ⟨k, oj, dj, hk, rfl, hd, hr, hst, hrk⟩ := hrel
    by_cases hlt : k < l.length
    · have haw := ha.step hst hN
      obtain ⟨b, off, hab, _, hbo, hbl, hrg, hi, hok⟩ := haw.at k hlt
      subst hab
      obtain ⟨va, vc, hfv⟩ := slc_form hi
      have hrow : dj.row.length ≤ 1000000 := by omega
      have hrow1 := does7_row dj l[k]
      obtain ⟨d1, e1, hdo⟩ : ∃ d1 e1, Hid (dj.does7 l[k] = (d1, e1)) := ⟨(dj.does7 l[k]).1, (dj.does7 l[k]).2, rfl⟩
      rw [hdo.out] at hrow1
      simp only at hrow1
      generalize hact : l[k] = act at *
      clear hact
      obtain ⟨ax, ay, ab, as', afv, afs⟩ := act
      simp only at hfv
      subst hfv
      have hrg : wr.rangeAt b (off + k * 5) [.int .u8 ax, .int .i64 ay, .int .u8 ab, .int .u8 as', .slice va afs.length vc] := hrg
      have hi : Ints wr oj (.slice va afs.length vc) afs := hi
      go_wp2_with fail
      have hdr : Step Nobody wr oj wr.drew oj := (Step.refl _ _ _).drew
      have hd := hd.step hdr (fun x => x)
      have hr := hr.step hdr (fun x => x)
      have hst := hst.drew
      have hi : Ints wr.drew oj (.slice va afs.length vc) afs := hi
      have hbl : b < wr.drew.heap.size := hbl
      have hrg : wr.drew.rangeAt b (off + k * 5) _ := hrg
      refine wp_region_need (fun w' => w'.rangeAt b (off + k * 5) [.int .u8 ax, .int .i64 ay, .int .u8 ab, .int .u8 as', .slice va afs.length vc]) (fun _ => true) (by kernel_rfl) hrg (fun hHeld => ?_)
      generalize wr.drew = W0 at *
      refine wpAnyN_take (i := 0) (v := ?_) rfl (by kernel_rfl) (by kernel_rfl) (by kernel_rfl) (by kernel_rfl) (fun _ _ _ h => h) (Or.inl ⟨by rfl, ?_⟩) (by assumption) ?_
      rotate_left
      · intro w hSw; ((try dsimp only at hSw); go_simp; (try with_reducible rfl))
      simp only [Act.put, List.setIfInBounds_toArray, List.set_cons_zero, List.set_cons_succ]
      refine wpAnyN_take (i := 1) (v := ?_) rfl (by kernel_rfl) (by kernel_rfl) (by kernel_rfl) (by kernel_rfl) (fun _ _ _ h => h) (Or.inl ⟨by rfl, ?_⟩) (by assumption) ?_
      rotate_left
      · intro w hSw; ((try dsimp only at hSw); go_simp; (try with_reducible rfl))
      simp only [Act.put, List.setIfInBounds_toArray, List.set_cons_zero, List.set_cons_succ]
      refine wpAnyN_take (i := 2) (v := ?_) rfl (by kernel_rfl) (by kernel_rfl) (by kernel_rfl) (by kernel_rfl) (fun _ _ _ h => h) (Or.inl ⟨by rfl, ?_⟩) (by assumption) ?_
      rotate_left
      · intro w hSw; ((try dsimp only at hSw); go_simp; (try with_reducible rfl))
      simp only [Act.put, List.setIfInBounds_toArray, List.set_cons_zero, List.set_cons_succ]
      refine wpAnyN_take (i := 3) (v := ?_) rfl (by kernel_rfl) (by kernel_rfl) (by kernel_rfl) (by kernel_rfl) (fun _ _ _ h => h) (Or.inl ⟨by rfl, ?_⟩) (by assumption) ?_
      rotate_left
      · intro w hSw; ((try dsimp only at hSw); go_simp; (try with_reducible rfl))
      simp only [Act.put, List.setIfInBounds_toArray, List.set_cons_zero, List.set_cons_succ]
      refine wpAnyN_take (i := 4) (v := .agg #[.int .u8 ax, .int .i64 ay, .int .u8 ab, .int .u8 as', .slice va afs.length vc]) rfl (by kernel_rfl) (by kernel_rfl) (by kernel_rfl) (by kernel_rfl) (fun _ _ _ h => h)
        (yieldsIf_load_mid rfl 43 (.tmp 69) rfl b (off + k * 5) rfl [.int .u8 ax, .int .i64 ay, .int .u8 ab, .int .u8 as', .slice va afs.length vc] _ (fun w h => h) Try.underlying43 rfl (by kernel_rfl)) (by assumption) ?_
      simp only [Act.put, List.setIfInBounds_toArray, List.set_cons_zero, List.set_cons_succ]
      refine wpAnyN_take (i := 6) (v := ?_) rfl (by kernel_rfl) (by kernel_rfl) (by kernel_rfl) (by kernel_rfl) (fun _ _ _ h => h) (Or.inl ⟨by rfl, ?_⟩) (by assumption) ?_
      rotate_left
      · intro w hSw; ((try dsimp only at hSw); go_simp; (try with_reducible rfl))
      simp only [Act.put, List.setIfInBounds_toArray, List.set_cons_zero, List.set_cons_succ]
      refine wpAnyN_take (i := 7) (v := ?_) rfl (by kernel_rfl) (by kernel_rfl) (by kernel_rfl) (by kernel_rfl) (fun _ _ _ h => h) (Or.inl ⟨by rfl, ?_⟩) (by assumption) ?_
      rotate_left
      · intro w hSw; ((try dsimp only at hSw); go_simp; (try with_reducible rfl))
      simp only [Act.put, List.setIfInBounds_toArray, List.set_cons_zero, List.set_cons_succ]
      refine wpAnyN_take (i := 8) (v := ?_) rfl (by kernel_rfl) (by kernel_rfl) (by kernel_rfl) (by kernel_rfl) (fun _ _ _ h => h) (Or.inl ⟨by rfl, ?_⟩) (by assumption) ?_
      rotate_left
      · intro w hSw; ((try dsimp only at hSw); go_simp; (try with_reducible rfl))
      simp only [Act.put, List.setIfInBounds_toArray, List.set_cons_zero, List.set_cons_succ]
      refine wpAnyN_take (i := 9) (v := ?_) rfl (by kernel_rfl) (by kernel_rfl) (by kernel_rfl) (by kernel_rfl) (fun _ _ _ h => h) (Or.inl ⟨by rfl, ?_⟩) (by assumption) ?_
      rotate_left
      · intro w hSw; ((try dsimp only at hSw); go_simp; (try with_reducible rfl))
      simp only [Act.put, List.setIfInBounds_toArray, List.set_cons_zero, List.set_cons_succ]
      refine wpAnyN_take (i := 10) (v := .agg #[.int .u8 ax, .int .i64 ay, .int .u8 ab, .int .u8 as', .slice va afs.length vc]) rfl (by kernel_rfl) (by kernel_rfl) (by kernel_rfl) (by kernel_rfl) (fun _ _ _ h => h)
        (yieldsIf_load_mid rfl 43 (.tmp 75) rfl b (off + k * 5) rfl [.int .u8 ax, .int .i64 ay, .int .u8 ab, .int .u8 as', .slice va afs.length vc] _ (fun w h => h) Try.underlying43 rfl (by kernel_rfl)) (by assumption) ?_
      simp only [Act.put, List.setIfInBounds_toArray, List.set_cons_zero, List.set_cons_succ]
      refine wpAnyN_one (i := 5) rfl (by kernel_rfl) ?_
      go_wp2_with fail
      refine (does7_is2 hd hD hrow ⟨ax, ay, ab, as', .slice va afs.length vc, afs⟩ hok hi hdo).mono ?_; rintro e wc ⟨v, oc, rfl, hs, rfl, hd⟩; have hst := hst.trans hs.two
      have hr := hr.step hs hND
      have hi := Slc.step hi hs hND0
      have hrg1 : wc.rangeAt b (off + k * 5) [.int .u8 ax, .int .i64 ay, .int .u8 ab, .int .u8 as', .slice va afs.length vc] := range_same hrg (hs.block b hbl (by rw [hbo]; exact hND0))
      have hbo1 : (oc b).1 = 0 := by rw [hs.own b hbl]; exact hbo
      have hbl1 := Nat.lt_of_lt_of_le hbl hs.size
      go_wp2_with fail
      refine ⟨fun _ => hrg1, ?_⟩
      refine wpAnyN_one (i := 11) rfl (by kernel_rfl) ?_
      go_wp2_with fail
      refine (told7_is hr hE hrow ⟨ax, ay, ab, as', .slice va afs.length vc, afs⟩ hok hi hdo).mono ?_; rintro e wd ⟨v, od, rfl, hs, rfl, hr⟩; have hst := hst.trans hs.two'
      have hd := hd.step hs hNE
      have hrg2 : wd.rangeAt b (off + k * 5) [.int .u8 ax, .int .i64 ay, .int .u8 ab, .int .u8 as', .slice va afs.length vc] := range_same hrg1 (hs.block b hbl1 (by rw [hbo1]; exact hNE0))
      go_wp2_with fail
      refine ⟨fun _ => hrg2, ?_⟩
      refine wpAnyN_one (i := 12) rfl (by kernel_rfl) ?_
      go_wp2_with fail
      refine ⟨fun _ => hrg2, ?_⟩
      refine wpAnyN_one (i := 13) rfl (by kernel_rfl) ?_
      go_wp2_with fail
      refine ⟨fun _ => hrg2, ?_⟩
      have hrow2 : d1.row.length ≤ 1000000 := by omega
      obtain ⟨pv1, rv1, ⟨-, k1, -, k3⟩, -, -, hrr, -⟩ := hr.open
      obtain ⟨ra, rc, rfl⟩ := rrow_form hrr
      have hde := dead_any hd
      have hwt := waiting_any hd
      clear hrr hi hrg hrg1
      refine wpAnyN_mono (S2 := fun w' => w'.rangeAt b (off + k * 5) [.int .u8 ax, .int .i64 ay, .int .u8 ab, .int .u8 as', .slice va afs.length vc] ∧ w'.cell? ⟨q, 3, none⟩ = some (.bool d1.dead) ∧ w'.cell? ⟨q, 1, none⟩ = some (.slice ra d1.row.length rc)) (need2 := fun _ => true) (fun _ _ h _ => (h rfl).1) _ _ _ _ ?_
      have hS2 : wd.rangeAt b (off + k * 5) [.int .u8 ax, .int .i64 ay, .int .u8 ab, .int .u8 as', .slice va afs.length vc] ∧ wd.cell? ⟨q, 3, none⟩ = some (.bool d1.dead) ∧ wd.cell? ⟨q, 1, none⟩ = some (.slice ra d1.row.length rc) := ⟨hrg2, k3, k1⟩
      generalize hdd : d1.dead = dd at *
      refine wpAnyN_take (i := 14) (v := ?_) rfl (by kernel_rfl) (by kernel_rfl) (by kernel_rfl) (by kernel_rfl) (fun _ _ _ h => h) (Or.inl ⟨by rfl, ?_⟩) (by assumption) ?_
      rotate_left
      · intro w hSw; ((try dsimp only at hSw); go_simp; (try with_reducible rfl))
      simp only [Act.put, List.setIfInBounds_toArray, List.set_cons_zero, List.set_cons_succ]
      refine wpAnyN_take (i := 16) (v := ?_) rfl (by kernel_rfl) (by kernel_rfl) (by kernel_rfl) (by kernel_rfl) (fun _ _ _ h => h) (Or.inl ⟨by rfl, ?_⟩) (by assumption) ?_
      rotate_left
      · intro w hSw; ((try dsimp only at hSw); go_simp; (try with_reducible rfl))
      simp only [Act.put, List.setIfInBounds_toArray, List.set_cons_zero, List.set_cons_succ]
      refine wpAnyN_take (i := 17) (v := ?_) rfl (by kernel_rfl) (by kernel_rfl) (by kernel_rfl) (by kernel_rfl) (fun _ _ _ h => h) (Or.inl ⟨by rfl, ?_⟩) (by assumption) ?_
      rotate_left
      · intro w hSw; ((try dsimp only at hSw); go_simp; (try with_reducible rfl))
      simp only [Act.put, List.setIfInBounds_toArray, List.set_cons_zero, List.set_cons_succ]
      refine wpAnyN_take (i := 18) (v := ?_) rfl (by kernel_rfl) (by kernel_rfl) (by kernel_rfl) (by kernel_rfl) (fun _ _ _ h => h) (Or.inl ⟨by rfl, ?_⟩) (by assumption) ?_
      rotate_left
      · intro w hSw; ((try dsimp only at hSw); go_simp; (try with_reducible rfl))
      simp only [Act.put, List.setIfInBounds_toArray, List.set_cons_zero, List.set_cons_succ]
      refine wpAnyN_take (i := 19) (v := ?_) rfl (by kernel_rfl) (by kernel_rfl) (by kernel_rfl) (by kernel_rfl) (fun _ _ _ h => h) (Or.inl ⟨by rfl, ?_⟩) (by assumption) ?_
      rotate_left
      · intro w hSw; ((try dsimp only at hSw); go_simp; (try with_reducible rfl))
      simp only [Act.put, List.setIfInBounds_toArray, List.set_cons_zero, List.set_cons_succ]
      refine wpAnyN_one (i := 15) rfl (by kernel_rfl) ?_
      go_wp2_with fail
      refine hde.mono ?_; rintro e w' ⟨rfl, rfl⟩
      go_wp2_with fail
      refine ⟨fun _ => hS2, ?_⟩
      refine wpAnyN_one (i := 20) rfl (by kernel_rfl) ?_
      go_wp2_with fail
      refine ⟨fun _ => hS2, ?_⟩
      refine wpAnyN_one (i := 21) rfl (by kernel_rfl) ?_
      go_wp2_with fail
      refine ⟨fun _ => hS2, ?_⟩
      refine wpAnyN_one (i := 22) rfl (by kernel_rfl) ?_
      go_wp2_with fail
      refine ⟨fun _ => hS2, ?_⟩
      refine wpAnyN_take (i := 23) (v := ?_) rfl (by kernel_rfl) (by kernel_rfl) (by kernel_rfl) (by kernel_rfl) (fun _ _ _ h => h) (Or.inl ⟨by rfl, ?_⟩) (by assumption) ?_
      rotate_left
      · intro w hSw; ((try dsimp only at hSw); go_simp; (try with_reducible rfl))
      simp only [Act.put, List.setIfInBounds_toArray, List.set_cons_zero, List.set_cons_succ]
      refine wpAnyN_take (i := 25) (v := ?_) rfl (by kernel_rfl) (by kernel_rfl) (by kernel_rfl) (by kernel_rfl) (fun _ _ _ h => h) (Or.inl ⟨by rfl, ?_⟩) (by assumption) ?_
      rotate_left
      · intro w hSw; ((try dsimp only at hSw); go_simp; (try with_reducible rfl))
      simp only [Act.put, List.setIfInBounds_toArray, List.set_cons_zero, List.set_cons_succ]
      refine wpAnyN_take (i := 26) (v := ?_) rfl (by kernel_rfl) (by kernel_rfl) (by kernel_rfl) (by kernel_rfl) (fun _ _ _ h => h) (Or.inl ⟨by rfl, ?_⟩) (by assumption) ?_
      rotate_left
      · intro w hSw; ((try dsimp only at hSw); go_simp; (try with_reducible rfl))
      simp only [Act.put, List.setIfInBounds_toArray, List.set_cons_zero, List.set_cons_succ]
      refine wpAnyN_take (i := 27) (v := ?_) rfl (by kernel_rfl) (by kernel_rfl) (by kernel_rfl) (by kernel_rfl) (fun _ _ _ h => h) (Or.inl ⟨by rfl, ?_⟩) (by assumption) ?_
      rotate_left
      · intro w hSw; ((try dsimp only at hSw); go_simp; (try with_reducible rfl))
      simp only [Act.put, List.setIfInBounds_toArray, List.set_cons_zero, List.set_cons_succ]
      refine wpAnyN_take (i := 28) (v := ?_) rfl (by kernel_rfl) (by kernel_rfl) (by kernel_rfl) (by kernel_rfl) (fun _ _ _ h => h) (Or.inl ⟨by rfl, ?_⟩) (by assumption) ?_
      rotate_left
      · intro w hSw; ((try dsimp only at hSw); go_simp; (try with_reducible rfl))
      simp only [Act.put, List.setIfInBounds_toArray, List.set_cons_zero, List.set_cons_succ]
      refine wpAnyN_take (i := 29) (v := ?_) rfl (by kernel_rfl) (by kernel_rfl) (by kernel_rfl) (by kernel_rfl) (fun _ _ _ h => h) (Or.inl ⟨by rfl, ?_⟩) (by assumption) ?_
      rotate_left
      · intro w hSw; ((try dsimp only at hSw); go_simp; (try with_reducible rfl))
      simp only [Act.put, List.setIfInBounds_toArray, List.set_cons_zero, List.set_cons_succ]
      refine wpAnyN_one (i := 24) rfl (by kernel_rfl) ?_
      go_wp2_with fail
      refine hwt.mono ?_; rintro e w' ⟨rfl, rfl⟩
      go_wp2_with fail
      refine ⟨fun _ => hS2, ?_⟩
      refine wpAnyN_one (i := 30) rfl (by kernel_rfl) ?_
      go_wp2_with fail
      refine ⟨fun _ => hS2, ?_⟩
      refine wpAnyN_one (i := 31) rfl (by kernel_rfl) ?_
      go_wp2_with fail
      refine ⟨fun _ => hS2, ?_⟩
      refine wpAnyN_done (by kernel_rfl) ?_ _
      clear hde hwt hS2 hrg2 k1 k3 hHeld
      go_wp2_with fail
      go_loopw [9] (fun i wx => ∃ (m : Nat) (ox : Own), m ≤ n + 2 ∧ i = .int .i64 ((m : Int) - 1) ∧ DiskAt wx ox D p d1 ∧ RefAt wx ox (D + 1) q d1 ∧ Step (Two D) w o wx ox)
        (fun i _ => n + 2 - (intOf i + 1).toNat)
      case atStart => exact ⟨0, od, by omega, rfl, hd, hr, hst⟩
      case round =>
        clear hd hr hst
        obtain ⟨m, ox, hm2, rfl, hd, hr, hst⟩ := hrel
        by_cases hlt2 : (m : Int) - 1 ≤ (n : Int)
        · obtain ⟨t, e, hRD⟩ : ∃ t e, Hid (d1.read ((m : Int) - 1) = (t, e)) := ⟨(d1.read ((m : Int) - 1)).1, (d1.read ((m : Int) - 1)).2, rfl⟩
          go_wp2_with fail
          refine (read_is hd hrow2 _ hRD.out).mono ?_; rintro e' wx ⟨v, oy, rfl, hs, vb, rfl, hn⟩; have hst := hst.trans (hs.two0 (D := D)); have hd := hd.step hs (fun x => x); have hr := hr.step hs (fun x => x)
          have hby := hn.bytes
          obtain ⟨va, vc, rfl⟩ := slc_form hby
          have hcv := conv_string hby
          clear hby hn
          go_wp2_with fail
          refine (rread_is hr _ hrow2 hRD).mono ?_; rintro e' w' ⟨rfl, rfl⟩
          unfold str
          go_wp2_with fail
          go_roundw
          case rel => exact ⟨m + 1, oy, by omega, by go_num, hd, hr, hst⟩
          case measure => simp [intOf]; omega
        · go_wp2_with fail
          go_roundw
          case rel => exact ⟨k + 1, ox, d1, hlt, by go_num, hd, hr, hst, by omega⟩
          case measure => simp [intOf]; omega
    · have hkl : k = l.length := by omega
      subst hkl
      go_wp2_with fail
      refine (wakes_any _ oj).mono ?_; rintro e wx ⟨v, oy, rfl, hs, rfl⟩; have hst := hst.trans (hs.two0 (D := D))
      go_wp2_with fail
      go_ret
      exact ⟨_, oy, rfl, hst.none hDf, rfl⟩
end Go.Proofs.YtfgggkheadfiaaaR
