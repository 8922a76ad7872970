/- The disk's law DiskSynced: its walk. -/
import Derived.Test.YtfgggkheadfiaaaRLaw07f
namespace Go.Proofs.YtfgggkheadfiaaaR
open Go Go.RowKit
attribute [local go_sem ↓] Go.wp_at_zero Go.wp_at_succ

theorem getD_set_in {α : Type} (l : List α) (i j : Nat) (x d : α) (hi : i < l.length) : (l.set i x).getD j d = if i = j then x else l.getD j d := by
  simp only [List.getD_eq_getElem?_getD, List.getElem?_set]
  by_cases h : i = j
  · subst h; simp [hi]
  · simp [h]
namespace DiskM
/-- Of a disk of six pages that was only written to: what each page's last write was. -/
def Syn (d : DiskM) (ls : List (List UInt8)) : Prop :=
  d.dead = false ∧ d.left = -1 ∧ d.pages = List.replicate 6 blank ∧ ls.length = 6 ∧ (∀ p, p < 6 → seenIn p blank d.row = if ls.getD p [] = [] then blank else ls.getD p []) ∧ ∀ x ∈ d.row, x.1 < 6 ∧ x.2.length = 512
theorem syn_new : (new 6).Syn (List.replicate 6 []) := by
  refine ⟨rfl, rfl, rfl, by simp, fun p hp => ?_, by simp [new]⟩
  have : (List.replicate 6 ([] : List UInt8)).getD p [] = [] := by
    simp only [List.getD_eq_getElem?_getD, List.getElem?_replicate]
    split <;> rfl
  rw [this]; rfl
theorem seenIn_snoc (p : Nat) (q : List UInt8) (row : List (Nat × List UInt8)) (x : Nat × List UInt8) : seenIn p q (row ++ [x]) = if x.1 = p then x.2 else seenIn p q row := by
  simp [seenIn, List.foldl_append]
theorem syn_write {d : DiskM} {ls : List (List UInt8)} (h : d.Syn ls) (at' : Int) (l : List UInt8) (hl : l.length = 512) :
    (∃ d', d.write at' l = (d', 0) ∧ 0 ≤ at' ∧ at' < 6 ∧ d'.Syn (ls.set at'.toNat l) ∧ d'.row.length = d.row.length + 1) ∨ d.write at' l = (d, 1) := by
  obtain ⟨h1, h2, h3, h4, h5, h6⟩ := h
  have hpl : d.pages.length = 6 := by rw [h3]; simp
  by_cases hb : at' < 0 ∨ 6 ≤ at'
  · right
    have ha : d.asked at' l.length = 1 := by
      unfold asked; rw [h1, hpl]; simp only [Bool.false_eq_true, if_false]; rw [if_pos (by omega)]
    simp [write, ha, counted]
  · left
    have ha : d.asked at' l.length = 0 := by
      unfold asked; rw [h1, hpl]; simp only [Bool.false_eq_true, if_false]; rw [if_neg (by omega)]
    have hc : d.counted 0 = (d, 0) := by unfold counted; rw [if_pos (by omega)]
    refine ⟨{ d with row := d.row ++ [(at'.toNat, l)] }, by simp [write, ha, hc], by omega, by omega, ⟨h1, h2, h3, by simpa using h4, ?_, ?_⟩, by simp⟩
    · intro p hp
      show seenIn p blank (d.row ++ [(at'.toNat, l)]) = _
      rw [seenIn_snoc]
      have hne : l ≠ [] := by intro e; rw [e] at hl; cases hl
      rw [getD_set_in _ _ _ _ _ (by omega)]
      by_cases he : at'.toNat = p
      · rw [if_pos he, if_pos he, if_neg hne]
      · rw [if_neg he, if_neg he]; exact h5 p hp
    · intro x hx
      rcases List.mem_append.1 hx with hx | hx
      · exact h6 x hx
      · simp only [List.mem_singleton] at hx; subst hx; exact ⟨by show at'.toNat < 6; omega, hl⟩
theorem done_seen : ∀ (row : List (Nat × List UInt8)) (k : Nat) (pages : List (List UInt8)) (p : Nat), (∀ q ∈ pages, q.length = 512) → (∀ x ∈ row, x.1 < pages.length ∧ x.2.length = 512) →
    ((row.zipIdx k).foldl (doneOne fun _ => 512) pages).getD p [] = seenIn p (pages.getD p []) row
  | [], _, _, _, _, _ => rfl
  | x :: r, k, pages, p, hq, hx => by
    have h1 := hx x (by simp)
    have h2 := doneOne_wf (fun _ => 512) (by simp) hq (x, k) h1.1 h1.2
    rw [List.zipIdx_cons, List.foldl_cons, done_seen r (k + 1) _ p h2.2 (fun y hy => by rw [h2.1]; exact hx y (by simp [hy]))]
    have hsp : splicePage 512 x.2 (pages.getD x.1 []) = x.2 := by
      unfold splicePage
      rw [List.take_of_length_le (by omega), List.drop_eq_nil_of_le (by rw [getD_wf hq h1.1]; omega), List.append_nil]
    have hone : (doneOne (fun _ => 512) pages (x, k)).getD p [] = if x.1 = p then x.2 else pages.getD p [] := by
      unfold doneOne
      rw [getD_set_in _ _ _ _ _ h1.1, hsp]
    rw [hone]
    rfl
/-- What is read behind a Sync, a loss of power and a start. -/
theorem syn_end {d : DiskM} {ls : List (List UInt8)} (h : d.Syn ls) (fates : List Int) :
    ∃ d1 d2, d.sync = (d1, 0) ∧ d1.row = [] ∧ d1.kill.restart fates = d2 ∧ d1.kill.row = [] ∧ d2.row = [] ∧ ∀ p : Nat, p < 6 → d2.read (p : Int) = (if ls.getD p [] = [] then blank else ls.getD p [], 0) := by
  obtain ⟨h1, h2, h3, h4, h5, h6⟩ := h
  have hpl : d.pages.length = 6 := by rw [h3]; simp
  have hq : ∀ q ∈ d.pages, q.length = 512 := by rw [h3]; intro q hq; rw [List.eq_of_mem_replicate hq]; exact length_blank
  have ha : d.asked 0 512 = 0 := by
    unfold asked; rw [h1, hpl]; simp
  have hc : d.counted 0 = (d, 0) := by unfold counted; rw [if_pos (by omega)]
  have hx : ∀ x ∈ d.row, x.1 < d.pages.length ∧ x.2.length = 512 := by rw [hpl]; exact h6
  have hpw := donePages_wf (fun _ => 512) (by simp) d.pages hq d.row hx
  have hdone : ∀ p, (d.done fun _ => 512).pages.getD p [] = seenIn p (d.pages.getD p []) d.row := fun p => done_seen d.row 0 d.pages p hq hx
  have hdp : (d.done fun _ => 512).pages.length = 6 := hpw.1.trans hpl
  have hre : (d.done fun _ => 512).kill.restart fates = { d.done (fun _ => 512) with dead := false, left := -1 } := rfl
  refine ⟨d.done fun _ => 512, _, by simp [sync, ha, hc], rfl, rfl, rfl, rfl, fun p hp => ?_⟩
  rw [hre]
  have hasked : ({ d.done (fun _ => 512) with dead := false, left := -1 } : DiskM).asked (p : Int) 512 = 0 := by
    unfold asked
    simp only [Bool.false_eq_true, if_false]
    rw [if_neg (by rw [hdp]; omega)]
  have hseen : ({ d.done (fun _ => 512) with dead := false, left := -1 } : DiskM).seen p = (d.done fun _ => 512).pages.getD p [] := rfl
  unfold read
  rw [hasked]
  simp only [ne_eq, not_true_eq_false, if_false, Int.toNat_natCast]
  rw [hseen, hdone, ← h5 p hp]
  have : d.pages.getD p [] = blank := by
    rw [h3]
    simp only [List.getD_eq_getElem?_getD, List.getElem?_replicate, hp, if_true, Option.getD_some]
  rw [this]
end DiskM

/-- texts as cells. -/
def tvs (ls : List (List UInt8)) : List Value := ls.map fun b => .string ⟨b.toArray⟩
theorem tvs_set (ls : List (List UInt8)) (i : Nat) (b : List UInt8) : (tvs ls).set i (.string ⟨b.toArray⟩) = tvs (ls.set i b) := by simp [tvs, List.map_set]
theorem get_tvs (ls : List (List UInt8)) (i : Nat) (h : i < ls.length) : (tvs ls)[i]? = some (.string ⟨(ls.getD i []).toArray⟩) := by
  simp [tvs, h]
theorem inf9 : (Try.prog.info? 9).map (fun i => (i.zero.map (fun z => z.cells.toList), i.size, i.bytes)) = some (some [.string ⟨#[]⟩], 1, 16) := by kernel_rfl
theorem does7_is {w : World} {o : Own} {D p : Nat} {d d1 : DiskM} {e1 : Int} (h : DiskAt w o D p d) (hD : D ≠ 0) (hrow : d.row.length ≤ 1000000) (a : Act7) (hok : a.ok) (hi : Ints w o a.fv a.fates) (he : Hid (d.does7 a = (d1, e1))) :
    Calls Try.prog 31 #[.pointer (some ⟨p, 0, none⟩), .agg a.cells.toArray] w (Ret (Only D) w o fun v w' o' => v = .int .i64 e1 ∧ DiskAt w' o' D p d1) := by
  have := does7_any h hD hrow a hok hi
  rw [he.out] at this; exact this
theorem n60 : (DiskM.new 6).row.length ≤ 1000000 := by decide +kernel
theorem length_sheet (a : Act7) : a.sheet.length = 512 := length_sheetL _ _ _

set_option maxRecDepth 100000 in
set_option maxHeartbeats 1600000 in
theorem synced_many {w : World} {o : Own} {v fv : Value} {l : List Act7} {fates : List Int} (ha : Acts7 w o v l) (hf : Ints w o fv fates) (hm : 0 < many7 l ∨ 100 < fates.length) : Calls Try.prog 5 #[v, fv] w (Ret Nobody w o fun v _ _ => v = .bool true) := by
  obtain ⟨fa, fc, rfl⟩ := slc_form hf
  by_cases h1 : 0 < many7 l
  · go_enter Try.func5, Try.ntmps5
    go_wp2_with fail
    refine (many7_any ha).mono ?_; rintro e w' ⟨rfl, rfl⟩
    go_wp2_with fail
    refine (wakes_any _ o).mono ?_; rintro e wc ⟨v, oc, rfl, hs, rfl⟩
    go_wp2_with fail
    go_ret
    exact ⟨_, oc, rfl, hs, rfl⟩
  · have h2 : (100 : Int) < (fates.length : Int) := by omega
    clear hm
    go_enter Try.func5, Try.ntmps5
    go_wp2_with fail
    refine (many7_any ha).mono ?_; rintro e w' ⟨rfl, rfl⟩
    go_wp2_with fail
    refine (wakes_any _ o).mono ?_; rintro e wc ⟨v, oc, rfl, hs, rfl⟩
    go_wp2_with fail
    go_ret
    exact ⟨_, oc, rfl, hs, rfl⟩

set_option maxRecDepth 100000 in
set_option maxHeartbeats 6400000 in
theorem synced_main {w : World} {o : Own} {v fv : Value} {l : List Act7} {fates : List Int} (ha : Acts7 w o v l) (hf : Ints w o fv fates) (hfw : ∀ a ∈ fates, -9223372036854775808 ≤ a ∧ a ≤ 9223372036854775807) (hm : ¬ 0 < many7 l) (hm2 : ¬ 100 < fates.length) :
    Calls Try.prog 5 #[v, fv] w (Ret Nobody w o fun v _ _ => v = .bool true) := by
  obtain ⟨fa, fc, rfl⟩ := slc_form hf
  obtain ⟨aa, ac, rfl⟩ := ha.form
  have hl80 : l.length ≤ 80 := by
    unfold many7 at hm
    split at hm
    · omega
    · omega
  have hm2I : ¬ (100 : Int) < (fates.length : Int) := by omega
  have hlI : (l.length : Int) ≤ 80 := by omega
  have hfwH := hidden hfw
  clear hfw hm2
  obtain ⟨D, hD0, hDf⟩ := fresh_tag o w.heap.size 0
  have hD : D ≠ 0 := by omega
  have hN : ¬ Only D 0 := fun h => hD h.symm
  clear hD0
  go_enter Try.func5, Try.ntmps5
  have hDE : D ≠ D + 1 := by omega
  go_wp2_with fail
  refine (many7_any ha).mono ?_; rintro e w' ⟨rfl, rfl⟩
  go_wp2_with fail
  refine (new_is (o := o) 6 D (by omega) (by omega) rfl).mono ?_; rintro e wc ⟨v, oc, rfl, hst, p, hp, rfl, hd⟩; have hst := hst.only D
  have hmk := run_make_zero (P := Try.prog) wc 41 9 _ 1 16 Try.underlying41 inf9 rfl 6 (by omega) (by omega) .i64 .i64
  have hz : (List.replicate 6 [Value.string ⟨#[]⟩]).flatten = tvs (List.replicate 6 []) := rfl
  rw [hz] at hmk
  have hs := (Step.refl Nobody wc oc).alloc (.cells (tvs (List.replicate 6 [])).toArray 9) (D + 1, 0)
  have hd := hd.step hs (fun x => x); have hsz := hst.size; have hst := hst.trans (hs.only D)
  have hlb : (wc.alloc (.cells (tvs (List.replicate 6 [])).toArray 9)).heap[wc.heap.size]? = some (.cells (tvs (List.replicate 6 [])).toArray 9 (0, 0)) := heap_alloc_new wc _
  have hlo : tagAt oc wc.heap.size (D + 1, 0) wc.heap.size = (D + 1, 0) := tagAt_same _ _ _
  have hmkH := hidden hmk
  clear hmk hz hs
  generalize hW : wc.alloc (.cells (tvs (List.replicate 6 [])).toArray 9) = W at *
  generalize tagAt oc wc.heap.size (D + 1, 0) = oW at *
  have hlbw : w.heap.size ≤ wc.heap.size := hsz
  generalize hlbe : wc.heap.size = lb at *
  clear hlbe hW
  go_wp2_with ((with_reducible apply lit_makeSlice); exact hmkH.out; simp only [Act.put, List.setIfInBounds_toArray, List.set_cons_zero, List.set_cons_succ])
  go_loopw [8] (fun i wr => ∃ (k : Nat) (oj : Own) (dj : DiskM) (ls : List (List UInt8)), k ≤ l.length ∧ i = .int .i64 k ∧ DiskAt wr oj D p dj ∧ Step (Only D) w o wr oj ∧ dj.Syn ls ∧ dj.row.length ≤ k ∧ wr.heap[lb]? = some (.cells (tvs ls).toArray 9 (0, 0)) ∧ oj lb = (D + 1, 0))
    (fun i _ => l.length - (intOf i).toNat)
  case atStart => exact ⟨0, oW, DiskM.new 6, List.replicate 6 [], Nat.zero_le _, rfl, hd, hst, DiskM.syn_new, by decide +kernel, hlb, hlo⟩
  case round =>
    clear hd hst hlb hlo
    obtain ⟨k, oj, dj, ls, hk, rfl, hd, hst, hsyn', hrk, hlb, hlo⟩ := hrel
    have hsyn : dj.Syn ls := hsyn'
    clear hsyn'
    have hsynH := hidden hsyn
    have hlbl := lt_of_block hlb
    have hls6 : ls.length = 6 := hsyn.2.2.2.1
    clear hsyn
    by_cases hlt : k < l.length
    · have haw := ha.step hst hN
      obtain ⟨b, off, hab, _, hbo, hbl, hr, hi, hok⟩ := haw.at k hlt
      subst hab
      obtain ⟨va, vc, hfv⟩ := slc_form hi
      have hrow : dj.row.length ≤ 1000000 := by omega
      have hdec := fun (h0 : l[k].do_ % 6 = 0) => DiskM.syn_write hsynH.out l[k].at' l[k].sheet (length_sheet _)
      have hdo : l[k].do_ % 6 = 0 → dj.does7 l[k] = dj.write l[k].at' l[k].sheet := fun h0 => by unfold DiskM.does7; rw [if_pos h0]
      have hbd := hok.1
      have hsht : l[k].sheet = sheetL (UInt8.ofNat l[k].b.toNat) (UInt8.ofNat l[k].st.toNat) 512 := rfl
      have hb2 := hok.2.2.1
      have hb3 := hok.2.2.2.1
      have c0 : wr.cell? ⟨b, off + k * 5, none⟩ = some (.int .u8 l[k].do_) := hr 0 _ rfl
      have c1 : wr.cell? ⟨b, off + k * 5 + 1, none⟩ = some (.int .i64 l[k].at') := hr 1 _ rfl
      have c2 : wr.cell? ⟨b, off + k * 5 + 2, none⟩ = some (.int .u8 l[k].b) := hr 2 _ rfl
      have c3 : wr.cell? ⟨b, off + k * 5 + 3, none⟩ = some (.int .u8 l[k].st) := hr 3 _ rfl
      have c4 : wr.cell? ⟨b, off + k * 5 + 4, none⟩ = some (.slice va l[k].fates.length vc) := by rw [← hfv]; exact hr 4 _ rfl
      have hokH := hidden hok
      have hdecH := hidden hdec
      have hdoH := hidden hdo
      have hshtH := hidden hsht
      clear hr hok hdec hdo haw hsht
      generalize l[k] = act at *
      obtain ⟨ax, ay, ab, as', afv, afs⟩ := act
      simp only at hbd hb2 hb3 c0 c1 c2 c3 c4 hi hokH hdecH hdoH hshtH hfv ⊢
      subst hfv
      by_cases h0 : ax % 6 = 0
      · have hdE := (hdoH.out h0)
        rcases hdecH.out h0 with ⟨d', hw, ha0, ha6, hsn, hrl⟩ | hw
        · have hE : Hid (dj.does7 ⟨ax, ay, ab, as', .slice va afs.length vc, afs⟩ = (d', 0)) := hdE.trans hw
          have hsnH := hidden hsn
          clear hdE hw hdecH hdoH hsn
          have hb00 := hbd.1
          have hb01 := hbd.2
          go_wp2_with fail
          refine (does7_is hd hD hrow ⟨ax, ay, ab, as', .slice va afs.length vc, afs⟩ hokH.out hi hE).mono ?_; rintro e wc ⟨v, oc, rfl, hs, rfl, hd⟩; have hst := hst.trans hs
          have hb2' := hs.block b hbl (by rw [hbo]; exact hN)
          have hbl2 := Nat.lt_of_lt_of_le hbl hs.size
          have hbo2 : (oc b).1 = 0 := by rw [hs.own b hbl]; exact hbo
          have hlb2 : wc.heap[lb]? = some (.cells (tvs ls).toArray 9 (0, 0)) := by rw [hs.block lb hlbl (by rw [hlo]; exact fun h => hDE h.symm)]; exact hlb
          have hlo2 : oc lb = (D + 1, 0) := by rw [hs.own lb hlbl]; exact hlo
          have hlbl2 := Nat.lt_of_lt_of_le hlbl hs.size
          have k1 : wc.cell? ⟨b, off + k * 5 + 1, none⟩ = some (.int .i64 ay) := by rw [World.cell?_of_block (a := ⟨b, off + k * 5 + 1, none⟩) hb2']; exact c1
          have k2 : wc.cell? ⟨b, off + k * 5 + 2, none⟩ = some (.int .u8 ab) := by rw [World.cell?_of_block (a := ⟨b, off + k * 5 + 2, none⟩) hb2']; exact c2
          have k3 : wc.cell? ⟨b, off + k * 5 + 3, none⟩ = some (.int .u8 as') := by rw [World.cell?_of_block (a := ⟨b, off + k * 5 + 3, none⟩) hb2']; exact c3
          have ha0' := ha0
          have ha6' := ha6
          clear c0 c1 c2 c3 c4 hb2' hlb hlo hi
          go_wp2_with fail
          have hst := hst.drew
          have hd := hd.step ((Step.refl Nobody _ _).drew) (fun x => x)
          refine wp_region_need (fun w' => w'.cell? ⟨b, off + k * 5 + 1, none⟩ = some (.int .i64 ay) ∧ w'.cell? ⟨b, off + k * 5 + 2, none⟩ = some (.int .u8 ab) ∧ w'.cell? ⟨b, off + k * 5 + 3, none⟩ = some (.int .u8 as')) (fun _ => true) (by kernel_rfl) ⟨k1, k2, k3⟩ (fun hHeld => ?_)
          refine wpAnyN_take (i := 0) (v := ?_) rfl (by kernel_rfl) (by kernel_rfl) (by kernel_rfl) (by kernel_rfl) (fun _ _ _ h => h) (Or.inl ⟨by rfl, ?_⟩) (by assumption) ?_
          rotate_left
          · intro w hSw; ((try dsimp only at hSw); go_simp; (try with_reducible rfl))
          simp only [Act.put, List.setIfInBounds_toArray, List.set_cons_zero, List.set_cons_succ]
          refine wpAnyN_take (i := 1) (v := ?_) rfl (by kernel_rfl) (by kernel_rfl) (by kernel_rfl) (by kernel_rfl) (fun _ _ _ h => h) (Or.inl ⟨by rfl, ?_⟩) (by assumption) ?_
          rotate_left
          · intro w hSw; ((try dsimp only at hSw); go_simp; (try with_reducible rfl))
          simp only [Act.put, List.setIfInBounds_toArray, List.set_cons_zero, List.set_cons_succ]
          refine wpAnyN_take (i := 2) (v := ?_) rfl (by kernel_rfl) (by kernel_rfl) (by kernel_rfl) (by kernel_rfl) (fun _ _ _ h => h) (Or.inl ⟨by rfl, ?_⟩) (by assumption) ?_
          rotate_left
          · intro w hSw; ((try dsimp only at hSw); go_simp; (try with_reducible rfl))
          simp only [Act.put, List.setIfInBounds_toArray, List.set_cons_zero, List.set_cons_succ]
          refine wpAnyN_take (i := 3) (v := ?_) rfl (by kernel_rfl) (by kernel_rfl) (by kernel_rfl) (by kernel_rfl) (fun _ _ _ h => h) (Or.inl ⟨by rfl, ?_⟩) (by assumption) ?_
          rotate_left
          · intro w hSw; ((try dsimp only at hSw); go_simp; (try with_reducible rfl))
          simp only [Act.put, List.setIfInBounds_toArray, List.set_cons_zero, List.set_cons_succ]
          refine wpAnyN_take (i := 4) (v := ?_) rfl (by kernel_rfl) (by kernel_rfl) (by kernel_rfl) (by kernel_rfl) (fun _ _ _ h => h) (Or.inl ⟨by rfl, ?_⟩) (by assumption) ?_
          rotate_left
          · intro w hSw; ((try dsimp only at hSw); go_simp; (try with_reducible rfl))
          simp only [Act.put, List.setIfInBounds_toArray, List.set_cons_zero, List.set_cons_succ]
          refine wpAnyN_take (i := 5) (v := ?_) rfl (by kernel_rfl) (by kernel_rfl) (by kernel_rfl) (by kernel_rfl) (fun _ _ _ h => h) (Or.inl ⟨by rfl, ?_⟩) (by assumption) ?_
          rotate_left
          · intro w hSw; ((try dsimp only at hSw); go_simp; (try with_reducible rfl))
          simp only [Act.put, List.setIfInBounds_toArray, List.set_cons_zero, List.set_cons_succ]
          refine wpAnyN_take (i := 6) (v := ?_) rfl (by kernel_rfl) (by kernel_rfl) (by kernel_rfl) (by kernel_rfl) (fun _ _ _ h => h) (Or.inl ⟨by rfl, ?_⟩) (by assumption) ?_
          rotate_left
          · intro w hSw; ((try dsimp only at hSw); go_simp; (try with_reducible rfl))
          simp only [Act.put, List.setIfInBounds_toArray, List.set_cons_zero, List.set_cons_succ]
          refine wpAnyN_take (i := 7) (v := ?_) rfl (by kernel_rfl) (by kernel_rfl) (by kernel_rfl) (by kernel_rfl) (fun _ _ _ h => h) (Or.inl ⟨by rfl, ?_⟩) (by assumption) ?_
          rotate_left
          · intro w hSw; ((try dsimp only at hSw); go_simp; (try with_reducible rfl))
          simp only [Act.put, List.setIfInBounds_toArray, List.set_cons_zero, List.set_cons_succ]
          refine wpAnyN_take (i := 8) (v := ?_) rfl (by kernel_rfl) (by kernel_rfl) (by kernel_rfl) (by kernel_rfl) (fun _ _ _ h => h) (Or.inl ⟨by rfl, ?_⟩) (by assumption) ?_
          rotate_left
          · intro w hSw; ((try dsimp only at hSw); go_simp; (try with_reducible rfl))
          simp only [Act.put, List.setIfInBounds_toArray, List.set_cons_zero, List.set_cons_succ]
          refine wpAnyN_take (i := 9) (v := ?_) rfl (by kernel_rfl) (by kernel_rfl) (by kernel_rfl) (by kernel_rfl) (fun _ _ _ h => h) (Or.inl ⟨by rfl, ?_⟩) (by assumption) ?_
          rotate_left
          · intro w hSw; ((try dsimp only at hSw); go_simp; (try with_reducible rfl))
          simp only [Act.put, List.setIfInBounds_toArray, List.set_cons_zero, List.set_cons_succ]
          refine wpAnyN_take (i := 10) (v := ?_) rfl (by kernel_rfl) (by kernel_rfl) (by kernel_rfl) (by kernel_rfl) (fun _ _ _ h => h) (Or.inl ⟨by rfl, ?_⟩) (by assumption) ?_
          rotate_left
          · intro w hSw; ((try dsimp only at hSw); go_simp; (try with_reducible rfl))
          simp only [Act.put, List.setIfInBounds_toArray, List.set_cons_zero, List.set_cons_succ]
          refine wpAnyN_take (i := 11) (v := ?_) rfl (by kernel_rfl) (by kernel_rfl) (by kernel_rfl) (by kernel_rfl) (fun _ _ _ h => h) (Or.inl ⟨by rfl, ?_⟩) (by assumption) ?_
          rotate_left
          · intro w hSw; ((try dsimp only at hSw); go_simp; (try with_reducible rfl))
          simp only [Act.put, List.setIfInBounds_toArray, List.set_cons_zero, List.set_cons_succ]
          refine wpAnyN_take (i := 12) (v := ?_) rfl (by kernel_rfl) (by kernel_rfl) (by kernel_rfl) (by kernel_rfl) (fun _ _ _ h => h) (Or.inl ⟨by rfl, ?_⟩) (by assumption) ?_
          rotate_left
          · intro w hSw; ((try dsimp only at hSw); go_simp; (try with_reducible rfl))
          simp only [Act.put, List.setIfInBounds_toArray, List.set_cons_zero, List.set_cons_succ]
          refine wpAnyN_take (i := 13) (v := ?_) rfl (by kernel_rfl) (by kernel_rfl) (by kernel_rfl) (by kernel_rfl) (fun _ _ _ h => h) (Or.inl ⟨by rfl, ?_⟩) (by assumption) ?_
          rotate_left
          · intro w hSw; ((try dsimp only at hSw); go_simp; (try with_reducible rfl))
          simp only [Act.put, List.setIfInBounds_toArray, List.set_cons_zero, List.set_cons_succ]
          refine wpAnyN_take (i := 14) (v := ?_) rfl (by kernel_rfl) (by kernel_rfl) (by kernel_rfl) (by kernel_rfl) (fun _ _ _ h => h) (Or.inl ⟨by rfl, ?_⟩) (by assumption) ?_
          rotate_left
          · intro w hSw; ((try dsimp only at hSw); go_simp; (try with_reducible rfl))
          simp only [Act.put, List.setIfInBounds_toArray, List.set_cons_zero, List.set_cons_succ]
          refine wpAnyN_take (i := 15) (v := ?_) rfl (by kernel_rfl) (by kernel_rfl) (by kernel_rfl) (by kernel_rfl) (fun _ _ _ h => h) (Or.inl ⟨by rfl, ?_⟩) (by assumption) ?_
          rotate_left
          · intro w hSw; ((try dsimp only at hSw); go_simp; (try with_reducible rfl))
          simp only [Act.put, List.setIfInBounds_toArray, List.set_cons_zero, List.set_cons_succ]
          refine wpAnyN_one (i := 16) rfl (by kernel_rfl) ?_
          go_wp2_with fail
          refine (sheet_int ab as' hb2 hb3 _ oc).mono ?_; rintro e we ⟨v, oe, rfl, hs2, hb⟩; have hb := hb.bytes; rw [← hshtH.out] at hb; have hd := hd.step hs2 (fun x => x); have hst := hst.trans (hs2.only D)
          have e1 := hs2.block b hbl2 (fun x => x)
          have hS1 : we.cell? ⟨b, off + k * 5 + 1, none⟩ = some (.int .i64 ay) ∧ we.cell? ⟨b, off + k * 5 + 2, none⟩ = some (.int .u8 ab) ∧ we.cell? ⟨b, off + k * 5 + 3, none⟩ = some (.int .u8 as') :=
            ⟨by rw [World.cell?_of_block (a := ⟨b, off + k * 5 + 1, none⟩) e1]; exact hHeld.1, by rw [World.cell?_of_block (a := ⟨b, off + k * 5 + 2, none⟩) e1]; exact hHeld.2.1, by rw [World.cell?_of_block (a := ⟨b, off + k * 5 + 3, none⟩) e1]; exact hHeld.2.2⟩
          have hlb3 : we.heap[lb]? = some (.cells (tvs ls).toArray 9 (0, 0)) := by rw [hs2.block lb hlbl2 (fun x => x)]; exact hlb2
          have hlo3 : oe lb = (D + 1, 0) := by rw [hs2.own lb hlbl2]; exact hlo2
          have hcv := conv_string hb
          go_wp2_with fail
          refine ⟨fun _ => hS1, ?_⟩
          have hcvH := hidden hcv
          clear hcv
          refine wpAnyN_one (i := 17) rfl (by kernel_rfl) ?_
          refine lit_convert hcvH.out ?_
          refine wpList_nil ?_
          simp only [Act.put, List.setIfInBounds_toArray, List.set_cons_zero, List.set_cons_succ]
          refine ⟨fun _ => hS1, ?_⟩
          refine wpAnyN_one (i := 18) rfl (by kernel_rfl) ?_
          go_wp2_with fail
          refine ⟨fun _ => hS1, ?_⟩
          obtain ⟨an, rfl⟩ := Int.eq_ofNat_of_zero_le ha0
          have han : an < 6 := by omega
          rw [Int.toNat_natCast] at hsnH ⊢
          have hcl : we.cell? ⟨lb, an, none⟩ = some (.string ⟨(ls.getD an []).toArray⟩) := by rw [cell_of_block hlb3 an, get_tvs ls an (by omega)]
          have hfl := free_of_block hlb3 an
          have hset := (Step.refl (Only (D + 1)) we oe).setCell (a := ⟨lb, an, none⟩) (.string ⟨(Act7.sheet ⟨ax, (an : Int), ab, as', .slice va afs.length vc, afs⟩).toArray⟩) (.inl (by rw [hlo3]; rfl))
          have hd := hd.step hset hDE
          have hst := hst.setCell (a := ⟨lb, an, none⟩) (.string ⟨(Act7.sheet ⟨ax, (an : Int), ab, as', .slice va afs.length vc, afs⟩).toArray⟩) (.inr hlbw)
          have hlb4 := heap_setCell_at (i := an) (.string ⟨(Act7.sheet ⟨ax, (an : Int), ab, as', .slice va afs.length vc, afs⟩).toArray⟩) hlb3
          rw [tvs_set] at hlb4
          have hbne : b ≠ lb := by rintro rfl; rw [hlo2] at hbo2; simp at hbo2
          refine wpAnyN_one (i := 19) rfl (by kernel_rfl) ?_
          go_wp2_with fail
          refine ⟨fun _ => ?_, ?_⟩
          · refine ⟨?_, ?_, ?_⟩ <;> (rw [World.cell?_setCell_other _ _ _ _ (by simp)]; first | exact hS1.1 | exact hS1.2.1 | exact hS1.2.2)
          refine wpAnyN_done (by kernel_rfl) ?_ _
          clear hcl hfl
          go_wp2_with fail
          go_roundw
          case rel => exact ⟨k + 1, oe, d', _, by omega, by go_num, hd, hst, hsnH.out, by omega, hlb4, hlo3⟩
          case measure => simp [intOf]; omega
        · have hE : Hid (dj.does7 ⟨ax, ay, ab, as', .slice va afs.length vc, afs⟩ = (dj, 1)) := hdE.trans hw
          clear hdE hw hdecH hdoH
          have hb00 := hbd.1
          have hb01 := hbd.2
          go_wp2_with fail
          refine (does7_is hd hD hrow ⟨ax, ay, ab, as', .slice va afs.length vc, afs⟩ hokH.out hi hE).mono ?_; rintro e wc ⟨v, oc, rfl, hs, rfl, hd⟩; have hst := hst.trans hs
          have hlb2 := hs.block lb hlbl (by rw [hlo]; exact fun h => hDE h.symm)
          go_wp2_with fail
          go_roundw
          case rel => exact ⟨k + 1, oc, dj, ls, by omega, by go_num, hd, hst, hsynH.out, by omega, by rw [hlb2]; exact hlb, by rw [hs.own lb hlbl]; exact hlo⟩
          case measure => simp [intOf]; omega
      · have h0b : (ax % 6 == 0) = false := by simpa using h0
        have hb00 := hbd.1
        have hb01 := hbd.2
        clear h0 hdecH hdoH
        go_wp2_with fail
        go_roundw
        case rel => exact ⟨k + 1, oj, dj, ls, by omega, by go_num, hd, hst, hsynH.out, by omega, hlb, hlo⟩
        case measure => simp [intOf]; omega
    · have hkl : k = l.length := by omega
      subst hkl
      have hrow : dj.row.length ≤ 1000000 := by omega
      obtain ⟨d1, d2, q1, q2, q3, q4, q5, q6⟩ := DiskM.syn_end hsynH.out fates
      have Q1 := hidden q1
      have Q2 := hidden q2
      have Q3 := hidden q3
      have Q4 := hidden q4
      have Q5 := hidden q5
      have Q6 := hidden q6
      clear q1 q2 q3 q4 q5 q6
      go_wp2_with fail
      refine (sync_is hd hrow Q1.out).mono ?_; rintro e wc ⟨v, oc, rfl, hs, rfl, hd⟩; have hst := hst.trans hs
      have hlb2 := hs.block lb hlbl (by rw [hlo]; exact fun h => hDE h.symm); have hlo2 := hs.own lb hlbl; have hlbl2 := Nat.lt_of_lt_of_le hlbl hs.size; rw [hlb] at hlb2; rw [hlo] at hlo2
      go_wp2_with fail
      refine (waiting_any hd).mono ?_; rintro e w' ⟨rfl, rfl⟩; rw [Q2.out]
      go_wp2_with fail
      refine (kill_any hd).mono ?_; rintro e wd ⟨v, od, rfl, hs2, rfl, hd⟩; have hst := hst.trans hs2
      have hlb3 := hs2.block lb hlbl2 (by rw [hlo2]; exact fun h => hDE h.symm); have hlo3 := hs2.own lb hlbl2; have hlbl3 := Nat.lt_of_lt_of_le hlbl2 hs2.size; rw [hlb2] at hlb3; rw [hlo2] at hlo3
      have hfi := hf.step hst hN
      go_wp2_with fail
      refine (restart_is hd hD (by rw [Q4.out]; simp) _ fates hfi hfwH.out Q3.out).mono ?_; rintro e we ⟨v, oe, rfl, hs3, rfl, hd⟩; have hst := hst.trans hs3
      have hlb4 := hs3.block lb hlbl3 (by rw [hlo3]; exact fun h => hDE h.symm); have hlo4 := hs3.own lb hlbl3; rw [hlb3] at hlb4; rw [hlo3] at hlo4
      clear hlb hlo hlb2 hlo2 hlb3 hlo3 hfi
      go_wp2_with fail
      go_loopw [9] (fun i wr => ∃ (m : Nat) (ox : Own), m ≤ 6 ∧ i = .int .i64 m ∧ DiskAt wr ox D p d2 ∧ Step (Only D) w o wr ox ∧ wr.heap[lb]? = some (.cells (tvs ls).toArray 9 (0, 0)) ∧ ox lb = (D + 1, 0))
        (fun i _ => 6 - (intOf i).toNat)
      case atStart => exact ⟨0, oe, by omega, rfl, hd, hst, hlb4, hlo4⟩
      case round =>
        clear hd hst hlb4 hlo4
        obtain ⟨m, ox, hm6, rfl, hd, hst, hlb, hlo⟩ := hrel
        have hrow2 : d2.row.length ≤ 1000000 := by rw [Q5.out]; simp
        by_cases hlt2 : m < 6
        · have hrd := Q6.out m hlt2
          have hcl := get_tvs ls m (by omega)
          generalize hq : ls.getD m [] = q at *
          clear hq
          by_cases hqe : q = []
          · subst hqe
            rw [if_pos rfl] at hrd
            have hRD := hidden hrd
            clear hrd
            go_wp2_with fail
            refine (read_is hd hrow2 m hRD.out).mono ?_; rintro e wx ⟨v, oy, rfl, hs, vb, rfl, hn⟩; have hst := hst.trans (hs.only D); have hd := hd.step hs (fun x => x)
            have hlbl := lt_of_block hlb
            have hlb2 := hs.block lb hlbl (fun x => x); have hlo2 := hs.own lb hlbl; rw [hlb] at hlb2; rw [hlo] at hlo2
            have hlbl2 := lt_of_block hlb2
            have hby := hn.bytes
            obtain ⟨va, vc, rfl⟩ := slc_form hby
            have hcm : wx.cell? ⟨lb, m, none⟩ = some (.string ⟨([] : List UInt8).toArray⟩) := by rw [cell_of_block hlb2 m]; exact hcl
            have hmk := run_make_zero (P := Try.prog) wx 28 5 _ 1 1 Try.underlying28 inf5 rfl 512 (by omega) (by omega) .i64 .i64
            rw [zeros_bvs] at hmk
            have hs4 : Step Nobody wx oy (wx.alloc (.cells (bvs DiskM.blank).toArray 5)) (tagAt oy wx.heap.size (0, 0)) := (Step.refl Nobody wx oy).alloc _ _
            have hbz : Bytes (wx.alloc (.cells (bvs DiskM.blank).toArray 5)) (tagAt oy wx.heap.size (0, 0)) (.slice (some ⟨wx.heap.size, 0, none⟩) 512 512) DiskM.blank := bytes_zeros wx oy 512 (by omega)
            have hcz := conv_string hbz
            have hcv4 := conv_string (hby.step hs4 (fun x => x))
            have hmk' : (Instr.makeSlice 28 (.int .i64 ((512 : Nat) : Int)) (.int .i64 ((512 : Nat) : Int))).run Try.prog wx = .ok (.slice (some ⟨wx.heap.size, 0, none⟩) 512 512) (wx.alloc (.cells (bvs DiskM.blank).toArray 5)) := hmk
            have hmkH := hidden hmk'
            have hd := hd.step hs4 (fun x => x); have hst := hst.trans (hs4.only D)
            have hlb3 := hs4.block lb hlbl2 (fun x => x); have hlo3 := hs4.own lb hlbl2; rw [hlb2] at hlb3; rw [hlo2] at hlo3
            rw [length_blank] at hcv4 ⊢
            clear hmk hmk' hs4 hbz hby hcl hn
            generalize wx.alloc (.cells (bvs DiskM.blank).toArray 5) = wy at *
            generalize tagAt oy wx.heap.size (0, 0) = oz at *
            generalize DiskM.blank = bl at *
            go_wp2_with ((with_reducible apply lit_makeSlice); exact hmkH.out; simp only [Act.put, List.setIfInBounds_toArray, List.set_cons_zero, List.set_cons_succ])
            go_roundw
            case rel => exact ⟨m + 1, oz, by omega, by go_num, hd, hst, hlb3, hlo3⟩
            case measure => simp [intOf]; omega
          · rw [if_neg hqe] at hrd
            have hRD := hidden hrd
            clear hrd
            go_wp2_with fail
            refine (read_is hd hrow2 m hRD.out).mono ?_; rintro e wx ⟨v, oy, rfl, hs, vb, rfl, hn⟩; have hst := hst.trans (hs.only D); have hd := hd.step hs (fun x => x)
            have hlbl := lt_of_block hlb
            have hlb2 := hs.block lb hlbl (fun x => x); have hlo2 := hs.own lb hlbl; rw [hlb] at hlb2; rw [hlo] at hlo2
            have hby := hn.bytes
            obtain ⟨va, vc, rfl⟩ := slc_form hby
            have hcm : wx.cell? ⟨lb, m, none⟩ = some (.string ⟨q.toArray⟩) := by rw [cell_of_block hlb2 m]; exact hcl
            have hcv4 := conv_string hby
            have hqi : q.isEmpty = false := by cases q <;> simp_all
            clear hby hcl hn
            go_wp2_with fail
            go_roundw
            case rel => exact ⟨m + 1, oy, by omega, by go_num, hd, hst, hlb2, hlo2⟩
            case measure => simp [intOf]; omega
        · have hm : m = 6 := by omega
          subst hm
          go_wp2_with fail
          refine (wakes_any _ ox).mono ?_; rintro e wx ⟨v, oy, rfl, hs, rfl⟩; have hst := hst.trans (hs.only D)
          go_wp2_with fail
          go_ret
          exact ⟨_, oy, rfl, hst.nobody hDf, rfl⟩
end Go.Proofs.YtfgggkheadfiaaaR
