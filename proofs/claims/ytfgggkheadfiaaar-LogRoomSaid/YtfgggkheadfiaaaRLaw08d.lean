/- The statement LogRoom: the walk. -/
import Derived.Test.YtfgggkheadfiaaaRLaw08b
namespace Go.Proofs.YtfgggkheadfiaaaR
open Go Go.RowKit
attribute [local go_sem ↓] Go.wp_at_zero Go.wp_at_succ

theorem many_zeros (b : Nat) : LogM.many (List.replicate b 0) = max 1 ((b + 479) / 480) := by unfold LogM.many; rw [List.length_replicate]
/-- Commit of b zero bytes, made anew. -/
theorem commit_zeros {w : World} {o : Own} {L D p pd : Nat} {s s' : LogM × DiskM} {e : Int} (hL : L ≠ 0) (hD : D ≠ 0) (hLD : L ≠ D) (h : LD w o L D p pd s) (hrow : s.2.row.length ≤ 700000) (b : Nat) (hb : b ≤ 100000) (he : LogM.commit (List.replicate b 0) s = (s', e)) :
    Calls Try.prog 40 #[.pointer (some ⟨p, 0, none⟩), .slice (some ⟨w.heap.size, 0, none⟩) b b] (w.alloc (.cells (bvs (List.replicate b 0)).toArray 5)) (Ret (In L D) w o fun v w' o' => v = .int .i64 e ∧ LD w' o' L D p pd s') := by
  have hsa := (Step.refl Nobody w o).alloc (.cells (bvs (List.replicate b 0)).toArray 5) (0, 0)
  have hba := bytes_new w o (List.replicate b 0) (by rw [List.length_replicate]; omega)
  rw [List.length_replicate] at hba
  have hld := h.step hsa (fun h => h) (fun h => h) (fun h => h)
  refine (commit_is hL hD hLD hld hrow _ _ hba (fun a n c h => by cases h; omega) (by rw [List.length_replicate]; omega) he).mono ?_
  rintro e' w' ⟨v, o', rfl, hs, rfl, hl⟩
  exact ⟨_, o', rfl, hsa.in0.trans hs, rfl, hl⟩
set_option maxRecDepth 100000 in
set_option maxHeartbeats 6400000 in
theorem logRoom_walk {w : World} {o : Own} (n : Int) (hn0 : 0 ≤ n) (hn1 : n ≤ 255) {v : Value} {l : List Int} (hl : Slc w o v l.length (l.map (Value.int .u16))) (hwf : ∀ a ∈ l, 0 ≤ a ∧ a ≤ 65535) :
    Calls Try.prog 9 #[.int .u8 n, v] w (Ret Nobody w o fun v _ _ => v = .bool true) := by
  obtain ⟨D, hD0, hDf⟩ := fresh_tag o w.heap.size 0
  have hD : D ≠ 0 := by omega
  obtain ⟨L, hL0, hLf⟩ := fresh_tag o w.heap.size D
  have hL : L ≠ 0 := by omega
  have hLD : L ≠ D := by omega
  clear hD0 hL0
  have hN : ¬ In L D 0 := fun h => by rcases h with h | h <;> omega
  obtain ⟨a, c, rfl⟩ : ∃ a c, v = .slice a l.length c := by
    rcases hl with ⟨⟨a, c, rfl⟩, h0, _⟩ | ⟨b, off, cap, rfl, _⟩
    · exact ⟨a, c, by rw [h0]⟩
    · exact ⟨_, _, rfl⟩
  by_cases hmany : 20 < l.length
  · have hmi : (20 : Int) < (l.length : Int) := by omega
    have hwk := wakes8_any w o
    clear hl hwf
    generalize l.length = ll at *
    go_enter Try.func9, Try.ntmps9
    go_wp2_with fail
    refine hwk.mono ?_; rintro e wc ⟨v, oc, rfl, hs, rfl⟩
    go_wp2_with fail
    go_ret
    exact ⟨_, oc, rfl, hs, rfl⟩
  have hmi : ¬ (20 : Int) < (l.length : Int) := by omega
  obtain ⟨N, hN0⟩ : ∃ N : Nat, n = N := ⟨n.toNat, by omega⟩
  subst hN0
  obtain ⟨k, hk⟩ : ∃ k, 2 + N % 19 = k := ⟨_, rfl⟩
  have hki : 2 + (N : Int) % 19 = (k : Int) := by omega
  have hk2 : 2 ≤ k := by omega
  have hk20 : k ≤ 20 := by omega
  have hmade := made_is (w := w) (o := o) hL hD hLD k hk2 (by omega)
  obtain ⟨ll, hll⟩ : ∃ ll, l.length = ll := ⟨_, rfl⟩
  rw [hll] at hl hmi ⊢
  have hlH := hidden hl
  have hwfH := hidden hwf
  have hllH := hidden hll
  have hkiH := hidden hki
  have hll20 : (ll : Int) ≤ 20 := by omega
  rw [← hki] at hmade
  clear hl hwf hll hmany hk hki
  go_enter Try.func9, Try.ntmps9
  go_wp2_with fail
  refine hmade.mono ?_; rintro e wc ⟨v, oc, rfl, hst, pd, p, -, -, rfl, hld⟩
  have hst := hst.inL (D := D)
  clear hmade
  go_wp2_with fail
  go_loopw [7] (fun i wr => ∃ (j : Nat) (oj : Own) (sj : LogM × DiskM), j ≤ ll ∧ i = .int .i64 j ∧ LD wr oj L D p pd sj ∧ Step (In L D) w o wr oj ∧ LogM.Up sj ∧ sj.1.n = k)
    (fun i _ => ll - (intOf i).toNat)
  case atStart => exact ⟨0, oc, _, Nat.zero_le _, rfl, hld, hst, new_up hk2, rfl⟩
  case round =>
    clear hld hst
    obtain ⟨j, oj, sj, hj, rfl, hld, hst, hU', hn'⟩ := hrel
    have hU := hidden (show LogM.Up sj from hU')
    have hn := hidden (show sj.1.n = k from hn')
    clear hU' hn'
    obtain ⟨R, hR⟩ : ∃ R, sj.1.room = R := ⟨_, rfl⟩
    have hRe : R = 480 * (k - sj.1.end') := by rw [← hR]; unfold LogM.room; rw [hn.out]
    have hen : sj.1.end' ≤ k := by have := hU.out.en; rw [hn.out] at this; exact this
    have hen1 : 1 ≤ sj.1.end' := hU.out.e1
    have hrow : sj.2.row.length ≤ 700000 := by rw [hU.out.row]; simp
    have hR9 : (R : Int) ≤ 9600 := by omega
    obtain ⟨E, hE⟩ : ∃ E, sj.1.end' = E := ⟨_, rfl⟩
    rw [hE] at hRe hen hen1
    have hRH := hidden hR
    have hEH := hidden hE
    have hReH := hidden hRe
    have hrowH := hidden hrow
    clear hR hE hrow hRe
    by_cases hlt : j < ll
    · obtain ⟨A, hA⟩ : ∃ A : Int, l[j]? = some A := ⟨_, List.getElem?_eq_getElem (by rw [hllH.out]; exact hlt)⟩
      obtain ⟨hA0, hA1⟩ := hwfH.out A (List.mem_of_getElem? hA)
      obtain ⟨bq, off, haE, -, -, -⟩ := (hlH.out.step hst hN).cell j (x := .int .u16 A) (by rw [List.getElem?_map, hA]; rfl)
      subst haE
      obtain ⟨B, hB⟩ : ∃ B : Nat, A % 3000 = (B : Int) := ⟨(A % 3000).toNat, by omega⟩
      have hB3 : (B : Int) < 3000 := by omega
      have hBH := hidden hB
      have hAH := hidden hA
      clear hB hA
      go_wp2_with fail
      refine (room_is hld.1 R hRH.out).mono ?_; rintro e wc ⟨v, oc, rfl, hs, rfl⟩
      have hld := hld.step hs (fun h => h) (fun h => h) (fun h => h)
      have hst := hst.trans hs.in0
      obtain ⟨b', off', haE', hcA, -, -⟩ := (hlH.out.step hst hN).cell j (x := .int .u16 A) (by rw [List.getElem?_map, hAH.out]; rfl)
      simp only [Option.some.injEq, Addr.mk.injEq, and_true] at haE'
      obtain ⟨rfl, rfl⟩ := haE'
      have hmk := make_bytes wc B (by omega)
      have hmkH := hidden hmk
      have hcz := fun (s' : LogM × DiskM) (e : Int) (he : LogM.commit (List.replicate B 0) sj = (s', e)) => commit_zeros hL hD hLD hld hrowH.out B (by omega) he
      have hst0 := hst
      have hczH := hidden hcz
      clear hmk hcz hld hs
      by_cases hq : ((B : Int) + 479) / 480 ≤ 1
      · by_cases hle : (480 : Int) ≤ (R : Int)
        · have hm : LogM.many (List.replicate B 0) = 1 := by rw [many_zeros]; omega
          obtain ⟨s2, hc2, hU2, -, e2, n2, -, -⟩ := LogM.commit_up hU.out (List.replicate B 0) (by have := hReH.out; rw [hm, hn.out, hEH.out]; omega)
          have hr2 : ((s2.1.room : Nat) : Int) = (R : Int) - 480 * (1) := by have := hReH.out; unfold LogM.room; rw [n2, e2, hm, hn.out, hEH.out]; omega
          have hcz := hczH.out s2 0 hc2
          have hn2H := hidden (n2.trans hn.out)
          have hU2H := hidden hU2
          have hr2H := hidden hr2
          clear hm e2 hr2 hc2 n2 hU2
          go_wp2_with fail
          rw [hBH.out, hmkH.out]
          clear hmkH hczH
          go_wp2_with fail
          refine hcz.mono ?_; rintro e wd ⟨v, od, rfl, hs, rfl, hld⟩
          have hst := hst.trans hs
          have hrm := room_is hld.1 s2.1.room rfl
          rw [hr2H.out] at hrm
          clear hcz hs
          go_wp2_with fail
          refine hrm.mono ?_; rintro e wd' ⟨v, od', rfl, hs, rfl⟩
          have hld := hld.step hs (fun h => h) (fun h => h) (fun h => h)
          have hst := hst.trans hs.in0
          clear hs hrm
          go_wp2_with fail
          go_roundw
          case rel => exact ⟨j + 1, od', s2, by omega, by go_num, hld, hst, hU2H.out, hn2H.out⟩
          case measure => simp [intOf]; omega
        · have hm : LogM.many (List.replicate B 0) = 1 := by rw [many_zeros]; omega
          have hc2 := LogM.commit_full hU.out.ld hU.out.dd (List.replicate B 0) (by have := hReH.out; rw [hm, hn.out, hEH.out]; omega)
          have hcz := hczH.out sj 4 hc2
          clear hm hc2
          go_wp2_with fail
          rw [hBH.out, hmkH.out]
          clear hmkH hczH
          go_wp2_with fail
          refine hcz.mono ?_; rintro e wd ⟨v, od, rfl, hs, rfl, hld⟩
          have hst := hst.trans hs
          have hrm := room_is hld.1 R hRH.out
          clear hcz hs
          go_wp2_with fail
          refine hrm.mono ?_; rintro e wd' ⟨v, od', rfl, hs, rfl⟩
          have hld := hld.step hs (fun h => h) (fun h => h) (fun h => h)
          have hst := hst.trans hs.in0
          clear hs hrm
          go_wp2_with fail
          go_roundw
          case rel => exact ⟨j + 1, od', sj, by omega, by go_num, hld, hst, hU.out, hn.out⟩
          case measure => simp [intOf]; omega
      · by_cases hle : 480 * (((B : Int) + 479) / 480) ≤ (R : Int)
        · have hm : LogM.many (List.replicate B 0) = (B + 479) / 480 := by rw [many_zeros]; omega
          obtain ⟨s2, hc2, hU2, -, e2, n2, -, -⟩ := LogM.commit_up hU.out (List.replicate B 0) (by have := hReH.out; rw [hm, hn.out, hEH.out]; omega)
          have hr2 : ((s2.1.room : Nat) : Int) = (R : Int) - 480 * (((B : Int) + 479) / 480) := by have := hReH.out; unfold LogM.room; rw [n2, e2, hm, hn.out, hEH.out]; omega
          have hcz := hczH.out s2 0 hc2
          have hn2H := hidden (n2.trans hn.out)
          have hU2H := hidden hU2
          have hr2H := hidden hr2
          clear hm e2 hr2 hc2 n2 hU2
          go_wp2_with fail
          rw [hBH.out, hmkH.out]
          clear hmkH hczH
          go_wp2_with fail
          refine hcz.mono ?_; rintro e wd ⟨v, od, rfl, hs, rfl, hld⟩
          have hst := hst.trans hs
          have hrm := room_is hld.1 s2.1.room rfl
          rw [hr2H.out] at hrm
          clear hcz hs
          go_wp2_with fail
          refine hrm.mono ?_; rintro e wd' ⟨v, od', rfl, hs, rfl⟩
          have hld := hld.step hs (fun h => h) (fun h => h) (fun h => h)
          have hst := hst.trans hs.in0
          clear hs hrm
          go_wp2_with fail
          go_roundw
          case rel => exact ⟨j + 1, od', s2, by omega, by go_num, hld, hst, hU2H.out, hn2H.out⟩
          case measure => simp [intOf]; omega
        · have hm : LogM.many (List.replicate B 0) = (B + 479) / 480 := by rw [many_zeros]; omega
          have hc2 := LogM.commit_full hU.out.ld hU.out.dd (List.replicate B 0) (by have := hReH.out; rw [hm, hn.out, hEH.out]; omega)
          have hcz := hczH.out sj 4 hc2
          clear hm hc2
          go_wp2_with fail
          rw [hBH.out, hmkH.out]
          clear hmkH hczH
          go_wp2_with fail
          refine hcz.mono ?_; rintro e wd ⟨v, od, rfl, hs, rfl, hld⟩
          have hst := hst.trans hs
          have hrm := room_is hld.1 R hRH.out
          clear hcz hs
          go_wp2_with fail
          refine hrm.mono ?_; rintro e wd' ⟨v, od', rfl, hs, rfl⟩
          have hld := hld.step hs (fun h => h) (fun h => h) (fun h => h)
          have hst := hst.trans hs.in0
          clear hs hrm
          go_wp2_with fail
          go_roundw
          case rel => exact ⟨j + 1, od', sj, by omega, by go_num, hld, hst, hU.out, hn.out⟩
          case measure => simp [intOf]; omega
    · have hjl : j = ll := by omega
      subst hjl
      have hE0 := hEH.out
      have hRe := hReH.out
      have hm1 : LogM.many (List.replicate (R + 1) 0) = k - E + 1 := by rw [many_zeros]; omega
      have hf1 := LogM.commit_full hU.out.ld hU.out.dd (List.replicate (R + 1) 0) (by rw [hm1, hn.out, hE0]; omega)
      have hf0 : R = 0 → LogM.commit [] sj = (sj, 4) := fun h0 => LogM.commit_full hU.out.ld hU.out.dd [] (by rw [hn.out, hE0]; have := LogM.many_pos []; omega)
      have hok : R ≠ 0 → ∃ s2, LogM.commit (List.replicate R 0) sj = (s2, 0) ∧ s2.1.room = 0 ∧ s2.2.row.length ≤ 700000 ∧ LogM.commit [] s2 = (s2, 4) := fun h0 => by
        have hm2 : LogM.many (List.replicate R 0) = k - E := by rw [many_zeros]; omega
        obtain ⟨s2, c2, hU2, -, e2, n2, -, -⟩ := LogM.commit_up hU.out (List.replicate R 0) (by rw [hm2, hn.out, hE0]; omega)
        rw [hE0, hm2] at e2
        rw [hn.out] at n2
        refine ⟨s2, c2, by unfold LogM.room; rw [n2, e2]; omega, by rw [hU2.row]; simp, LogM.commit_full hU2.ld hU2.dd [] (by rw [n2, e2]; have := LogM.many_pos []; omega)⟩
      have hf1H := hidden hf1
      have hf0H := hidden hf0
      have hokH := hidden hok
      clear hRe hE0 hm1 hf1 hf0 hok
      go_wp2_with fail
      refine (room_is hld.1 R hRH.out).mono ?_; rintro e wc ⟨v, oc, rfl, hs, rfl⟩
      have hld := hld.step hs (fun h => h) (fun h => h) (fun h => h)
      have hst := hst.trans hs.in0
      have hmk := make_bytes wc (R + 1) (by omega)
      have hcz := commit_zeros hL hD hLD hld hrowH.out (R + 1) (by omega) hf1H.out
      rw [show ((R + 1 : Nat) : Int) = (R : Int) + 1 from by omega] at hmk
      have hmkH := hidden hmk
      clear hs hmk hld
      go_wp2_with fail
      rw [hmkH.out]
      clear hmkH
      go_wp2_with fail
      refine hcz.mono ?_; rintro e wc ⟨v, oc, rfl, hs, rfl, hld⟩
      have hst := hst.trans hs
      clear hcz hs
      go_wp2_with fail
      refine (room_is hld.1 R hRH.out).mono ?_; rintro e wc' ⟨v, oc', rfl, hs, rfl⟩
      have hld := hld.step hs (fun h => h) (fun h => h) (fun h => h)
      have hst := hst.trans hs.in0
      clear hs
      by_cases h0 : R = 0
      · have hcn := commit_is hL hD hLD hld hrowH.out [] (.slice none 0 0) (Bytes.nil _ _) (fun a n c h => by cases h; decide) (by decide) (hf0H.out h0)
        have hRI : (R : Int) = 0 := by omega
        clear hokH
        go_wp2_with fail
        refine hcn.mono ?_; rintro e wc ⟨v, oc, rfl, hs, rfl, hld⟩
        have hst := (hst.trans hs).nobody2 hLf hDf
        have hwk := wakes8_any wc oc
        clear hcn hs
        go_wp2_with fail
        refine hwk.mono ?_; rintro e wc' ⟨v, oc', rfl, hs, rfl⟩
        go_wp2_with fail
        go_ret
        exact ⟨_, oc', rfl, hst.trans hs, rfl⟩
      · have hRI : (R : Int) ≠ 0 := by omega
        obtain ⟨s2, hc2, hr2, hw2, hc3⟩ := hokH.out h0
        have hc3H := hidden hc3
        have hmk := make_bytes wc' R (by omega)
        have hcz := commit_zeros hL hD hLD hld hrowH.out R (by omega) hc2
        have hmkH := hidden hmk
        clear hmk hld hc2 hc3 h0
        go_wp2_with fail
        rw [hmkH.out]
        clear hmkH
        go_wp2_with fail
        refine hcz.mono ?_; rintro e wc ⟨v, oc, rfl, hs, rfl, hld⟩
        have hst := hst.trans hs
        clear hcz hs
        go_wp2_with fail
        refine (room_is hld.1 0 hr2).mono ?_; rintro e wc'' ⟨v, oc'', rfl, hs, rfl⟩
        have hld := hld.step hs (fun h => h) (fun h => h) (fun h => h)
        have hst := hst.trans hs.in0
        have hcn := commit_is hL hD hLD hld hw2 [] (.slice none 0 0) (Bytes.nil _ _) (fun a n c h => by cases h; decide) (by decide) hc3H.out
        clear hs
        go_wp2_with fail
        refine hcn.mono ?_; rintro e wc ⟨v, oc, rfl, hs, rfl, hld⟩
        have hst := (hst.trans hs).nobody2 hLf hDf
        have hwk := wakes8_any wc oc
        clear hcn hs
        go_wp2_with fail
        refine hwk.mono ?_; rintro e wc' ⟨v, oc', rfl, hs, rfl⟩
        go_wp2_with fail
        go_ret
        exact ⟨_, oc', rfl, hst.trans hs, rfl⟩
end Go.Proofs.YtfgggkheadfiaaaR
