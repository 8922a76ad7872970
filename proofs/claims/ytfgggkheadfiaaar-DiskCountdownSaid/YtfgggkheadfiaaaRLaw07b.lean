/- The disk's closed law: DiskKnown. -/
import Derived.Test.YtfgggkheadfiaaaRLaw07a
import Derived.Test.YtfgggkheadfiaaaRFin
import Derived.Test.YtfgggkheadfiaaaRRows
namespace Go.Proofs.YtfgggkheadfiaaaR
open Go Go.RowKit Go.ChangeShapes Go.WideShapes Go.ChangeAt
attribute [local go_sem ↓] Go.wp_at_zero Go.wp_at_succ

theorem ownKnobs : ownKnob Try.prog.godebug = none := by kernel_rfl
theorem laidOutTry : laidOutB Try.prog = true := by kernel_rfl

def C512 : List UInt8 := List.replicate 512 99
theorem sheetC : sheetL 99 0 512 = C512 := sheetL_zero _ _
def kn1 : DiskM := (DiskM.new 2).fuse 1
def kn2 : DiskM := (kn1.write 1 (List.replicate 512 97)).1
def kn3 : DiskM := (kn2.sync).1
def kn4 : DiskM := kn3.restart [512]
def knp1 : List UInt8 := (kn4.read 1).1
def kn5 : DiskM := (kn4.write 0 (List.replicate 512 98)).1
def kn6 : DiskM := kn5.restart [-1]
def knp2 : List UInt8 := (kn6.read 0).1
def kn7 : DiskM := (kn6.write 0 C512).1
def kn8 : DiskM := kn7.restart [513]
def knp3 : List UInt8 := (kn8.read 0).1
section
attribute [local semireducible] wk0 A512 B512
theorem kn1e : wk0.fuse 1 = kn1 := rfl
theorem kn2e : kn1.write 1 A512 = (kn2, 0) := by unfold kn2; exact pair_of (by decide +kernel)
theorem kn3e : kn2.sync = (kn3, 9) := by unfold kn3; exact pair_of (by decide +kernel)
theorem kn3r : kn3.read 1 = ([], 9) := by decide +kernel
theorem kn4e : kn3.restart [512] = kn4 := rfl
theorem knp1e : kn4.read 1 = (knp1, 0) := by unfold knp1; exact pair_of (by decide +kernel)
theorem knp1l : knp1.length = 512 := by decide +kernel
theorem knp1x : knp1[511]? = some 97 := by decide +kernel
theorem kn5e : kn4.write 0 B512 = (kn5, 0) := by unfold kn5; exact pair_of (by decide +kernel)
theorem kn6e : kn5.restart [-1] = kn6 := rfl
theorem knp2e : kn6.read 0 = (knp2, 0) := by unfold knp2; exact pair_of (by decide +kernel)
theorem knp2l : knp2.length = 512 := by decide +kernel
theorem knp2x : knp2[511]? = some 98 := by decide +kernel
theorem kn7e : kn6.write 0 C512 = (kn7, 0) := by unfold kn7; exact pair_of (by decide +kernel)
theorem kn8e : kn7.restart [513] = kn8 := rfl
theorem knp3e : kn8.read 0 = (knp3, 0) := by unfold knp3; exact pair_of (by decide +kernel)
theorem knp3l : knp3.length = 512 := by decide +kernel
theorem knp3x : knp3[0]? = some 98 := by decide +kernel
theorem knr1 : kn1.row.length ≤ 1000000 := by decide +kernel
theorem knr2 : kn2.row.length ≤ 1000000 := by decide +kernel
theorem knr3 : kn3.row.length ≤ 1000000 := by decide +kernel
theorem knr4 : kn4.row.length ≤ 1000000 := by decide +kernel
theorem knr5 : kn5.row.length ≤ 1000000 := by decide +kernel
theorem knr6 : kn6.row.length ≤ 1000000 := by decide +kernel
theorem knr7 : kn7.row.length ≤ 1000000 := by decide +kernel
theorem knr8 : kn8.row.length ≤ 1000000 := by decide +kernel
end
attribute [irreducible] kn1 kn2 kn3 kn4 kn5 kn6 kn7 kn8 knp1 knp2 knp3 C512

set_option maxRecDepth 100000 in
set_option maxHeartbeats 3200000 in
theorem known_walk (w : World) (o : Own) : Calls Try.prog 3 #[] w (Ret Nobody w o fun v _ _ => v = .bool true) := by
  obtain ⟨D, hD0, hDf⟩ := fresh_tag o w.heap.size 0
  have hD : D ≠ 0 := by omega
  have hN : ¬ Only D 0 := fun h => hD h.symm
  clear hD0
  go_enter Try.func3, Try.ntmps3
  go_wp2_with fail
  refine (new_bad 0 _ o (by omega)).mono ?_; rintro e w' ⟨rfl, rfl⟩
  go_wp2_with fail
  refine (new_bad 4097 _ o (by omega)).mono ?_; rintro e w' ⟨rfl, rfl⟩
  go_wp2_with fail
  refine (new_is (o := o) 2 D (by omega) (by omega) wk0n).mono ?_; rintro e wc ⟨v, oc, rfl, hst, p, hp, rfl, hd⟩; have hst := hst.only D
  go_wp2_with fail
  refine (fuse_any hd 1 (by omega)).mono ?_; rintro e wc ⟨v, oc, rfl, hs, rfl, hd⟩; rw [kn1e] at hd; have hst := hst.trans hs
  go_wp2_with fail
  refine (sheet_any 97 0 _ oc).mono ?_; rintro e wc ⟨v, oc, rfl, hs, hb⟩; have hb := hb.bytes; rw [sheetA] at hb; have hd := hd.step hs (fun x => x); have hst := hst.trans (hs.only D)
  go_wp2_with fail
  refine (write_is hd hD knr1 1 _ _ hb kn2e).mono ?_; rintro e wc ⟨v, oc, rfl, hs, rfl, hd⟩; have hst := hst.trans hs
  go_wp2_with fail
  refine (sync_is hd knr2 kn3e).mono ?_; rintro e wc ⟨v, oc, rfl, hs, rfl, hd⟩; have hst := hst.trans hs
  go_wp2_with fail
  refine (read_is hd knr3 1 kn3r).mono ?_; rintro e wc ⟨v, oc, rfl, hs, vb, rfl, hn⟩; have hst := hst.trans (hs.only D); obtain rfl := np_nil hn; have hd := hd.step hs (fun x => x)
  have hs := (Step.refl Nobody wc oc).alloc (.cells (ivs [512]).toArray 3) (0, 0); have hd := hd.step hs (fun x => x); have hli := ints_new3 wc oc [512] (by decide); have hst := hst.trans (hs.only D)
  go_wp2_with fail
  refine (restart_is hd hD knr3 _ [512] hli (by intro a ha; simp at ha; omega) kn4e).mono ?_; rintro e wc ⟨v, oc, rfl, hs, rfl, hd⟩; have hst := hst.trans hs
  go_wp2_with fail
  refine (read_is hd knr4 1 knp1e).mono ?_; rintro e wc ⟨v, oc, rfl, hs, vb, rfl, hn⟩; have hst := hst.trans (hs.only D); obtain ⟨b1, rfl, hx1, hbw, hbh⟩ := np_page hn knp1l; have hd := hd.step hs (fun x => x)
  have x1 := hx1.cell 511 knp1x
  go_wp2_with fail
  refine (sheet_any 98 0 _ oc).mono ?_; rintro e wc ⟨v, oc, rfl, hs, hb⟩; have hb := hb.bytes; rw [sheetB] at hb; have hd := hd.step hs (fun x => x); have hst := hst.trans (hs.only D); have hx1 := hx1.step hs (fun x => x)
  go_wp2_with fail
  refine (write_is hd hD knr4 0 _ _ hb kn5e).mono ?_; rintro e wc ⟨v, oc, rfl, hs, rfl, hd⟩; have hst := hst.trans hs
  have hs := (Step.refl Nobody wc oc).alloc (.cells (ivs [-1]).toArray 3) (0, 0); have hd := hd.step hs (fun x => x); have hli := ints_new3 wc oc [-1] (by decide); have hst := hst.trans (hs.only D)
  go_wp2_with fail
  refine (restart_is hd hD knr5 _ [-1] hli (by intro a ha; simp at ha; omega) kn6e).mono ?_; rintro e wc ⟨v, oc, rfl, hs, rfl, hd⟩; have hst := hst.trans hs
  go_wp2_with fail
  refine (read_is hd knr6 0 knp2e).mono ?_; rintro e wc ⟨v, oc, rfl, hs, vb, rfl, hn⟩; have hst := hst.trans (hs.only D); obtain ⟨b2, rfl, hx2, hbw, hbh⟩ := np_page hn knp2l; have hd := hd.step hs (fun x => x)
  go_wp2_with fail
  refine (sheet_any 99 0 _ oc).mono ?_; rintro e wc ⟨v, oc, rfl, hs, hb⟩; have hb := hb.bytes; rw [sheetC] at hb; have hd := hd.step hs (fun x => x); have hst := hst.trans (hs.only D); have hx2 := hx2.step hs (fun x => x)
  go_wp2_with fail
  refine (write_is hd hD knr6 0 _ _ hb kn7e).mono ?_; rintro e wc ⟨v, oc, rfl, hs, rfl, hd⟩; have hst := hst.trans hs; have hx2 := hx2.step hs hN
  have hs := (Step.refl Nobody wc oc).alloc (.cells (ivs [513]).toArray 3) (0, 0); have hd := hd.step hs (fun x => x); have hli := ints_new3 wc oc [513] (by decide); have hst := hst.trans (hs.only D); have hx2 := hx2.step hs (fun x => x)
  go_wp2_with fail
  refine (restart_is hd hD knr7 _ [513] hli (by intro a ha; simp at ha; omega) kn8e).mono ?_; rintro e wc ⟨v, oc, rfl, hs, rfl, hd⟩; have hst := hst.trans hs; have hx2 := hx2.step hs hN
  go_wp2_with fail
  refine (read_is hd knr8 0 knp3e).mono ?_; rintro e wc ⟨v, oc, rfl, hs, vb, rfl, hn⟩; have hst := hst.trans (hs.only D); obtain ⟨b3, rfl, hx3, hbw, hbh⟩ := np_page hn knp3l; have hd := hd.step hs (fun x => x); have hx2 := hx2.step hs (fun x => x)
  have x2 := hx2.cell 511 knp2x
  have x3 := hx3.cell 0 knp3x
  go_wp2_with fail
  refine (wakes_any _ oc).mono ?_; rintro e wc ⟨v, oc, rfl, hs, rfl⟩; have hst := hst.trans (hs.only D)
  go_wp2_with fail
  go_ret
  exact ⟨_, oc, rfl, hst.nobody hDf, rfl⟩

/-! ### DiskKnown -/
set_option maxRecDepth 100000 in
theorem diskKnown_lifted (os : Os) (started : os.Started) (H : Type) (enc : TypeId × Value → H) :
    ReturnsInHanded {} Try.checked os 3 .any (Rows.diskKnownSpec.pre6 enc Try.prog Try.f3 Rows.diskKnownRow.domain false) (Rows.diskKnownSpec.post enc Try.prog Try.f3 false true false false) := by
  refine returnsInHanded_of_change (C := Try.checked) ownKnobs started (by kernel_rfl) Try.func3
    (ChangeSpec.witness6 (enc := enc) (C := Try.checked) false ⟨#[], #[], []⟩ 8 (by kernel_rfl) (by kernel_rfl) (by kernel_rfl) (by kernel_rfl)) ?_
  intro W base args ds gs before hval0 hW hcnd _
  have hval : ∀ (j : Nat) t v, Try.f3.params[j]? = some t → args[j]? = some v → Value.okWide Try.prog W .any base t v := hval0
  have hW' := hW
  obtain ⟨p, q, hA0, hV, rfl, hfz, hnd⟩ := hW
  have hA : DataW.TrodAll enc Try.prog W 0 (fun _ => true) true Try.f3.params.toList args.toList ds p := hA0
  rw [Try.params3] at hA hval
  obtain ⟨rfl, rfl, rfl⟩ := trodAll_none hA
  obtain ⟨rfl, rfl⟩ := trodVars_none hV
  clear hA0 hval0
  refine (known_walk W (fun _ => (0, 0))).mono fun e W' he => ?_
  obtain ⟨v, o', rfl, hs, rfl⟩ := he
  exact ⟨_, rfl, law_post laidOutTry (by kernel_rfl) rfl Try.underlying4 hW' rfl rfl rfl rfl rfl hs.below⟩

/-- THE STATEMENT. -/
theorem diskKnown_holds : Rows.DiskKnownSaid :=
  OpenClaim.holds_of_wide 3 Try.f3 rfl rfl rfl rfl rfl rfl rfl ⟨rfl, rfl, rfl, rfl, rfl⟩ rfl rfl rfl rfl rfl (by kernel_rfl) Try.func3 (by kernel_rfl)
    (of_decide_eq_true (by kernel_rfl)) (by unfold Func.isWrapper; first | (rw [if_pos (by decide +kernel)]; kernel_rfl) | (rw [if_neg (by decide +kernel)]; exact ⟨rfl, rfl⟩))
    (fun os started H enc _ => diskKnown_lifted os started H enc)
#print axioms diskKnown_holds
end Go.Proofs.YtfgggkheadfiaaaR
