/- Contracts: Commit, Reset. -/
import Derived.Test.YtfgggkheadfiaaaRLog13
namespace Go.Proofs.YtfgggkheadfiaaaR
open Go Go.RowKit
attribute [local go_sem ↓] Go.wp_at_zero Go.wp_at_succ

namespace LogM
abbrev Act1 := (LogM × DiskM) → (LogM × DiskM) × Int
def stN (fs : List Act1) (s : LogM × DiskM) : Nat → LogM × DiskM
  | 0 => s
  | i + 1 => match fs[i]? with
    | some f => (f (stN fs s i)).1
    | none => stN fs s i
def erN (fs : List Act1) (s : LogM × DiskM) (i : Nat) : Int := match fs[i]? with
  | some f => (f (stN fs s i)).2
  | none => 0
theorem goes_steps (fs : List Act1) (s : LogM × DiskM) : ∀ (n i : Nat), i + n = fs.length → goes (stN fs s) (erN fs s) i n = steps (fs.drop i) (stN fs s i)
  | 0, i, h => by
    rw [List.drop_eq_nil_of_le (by omega)]; rfl
  | n + 1, i, h => by
    have hi : i < fs.length := by omega
    rw [List.drop_eq_getElem_cons hi]
    unfold goes steps
    have h1 : erN fs s i = (fs[i] (stN fs s i)).2 := by unfold erN; rw [List.getElem?_eq_getElem hi]
    have h2 : stN fs s (i + 1) = (fs[i] (stN fs s i)).1 := by conv => lhs; unfold stN
                                                              rw [List.getElem?_eq_getElem hi]
    rw [h1, h2]
    by_cases he : (fs[i] (stN fs s i)).2 ≠ 0
    · rw [if_pos he, if_pos he]
    · rw [if_neg he, if_neg he, goes_steps fs s n (i + 1) (by omega), h2]
theorem step1_same (b : List UInt8) (s : LogM × DiskM) : (step1 b s).1 = s := by unfold step1; split <;> rfl
theorem head_same (s : LogM × DiskM) : (head s).1.1 = { s.1 with stamp := s.1.stamp + 1#64 } ∧ (head s).1.2.row.length ≤ s.2.row.length + 1 := by
  unfold head
  have h1 := DiskM.write_row s.2 (s.1.first : Int) (LeafM.page ⟨s.1.stamp + 1#64, 0, 0, []⟩)
  have h2 := DiskM.sync_row (s.2.write (s.1.first : Int) (LeafM.page ⟨s.1.stamp + 1#64, 0, 0, []⟩)).1
  dsimp only
  split
  · exact ⟨rfl, h1⟩
  · exact ⟨rfl, by dsimp only; omega⟩
theorem step2_same (s : LogM × DiskM) : (step2 s).1.1.n = s.1.n ∧ (step2 s).1.1.end' = s.1.end' ∧ (step2 s).1.2.row.length ≤ s.2.row.length + 1 := by
  unfold step2
  split
  · exact ⟨rfl, rfl, by show s.2.row.length ≤ _; omega⟩
  · obtain ⟨h1, h2⟩ := head_same s
    dsimp only
    exact ⟨by rw [h1], by rw [h1], h2⟩
theorem step3_same (b : List UInt8) (s : LogM × DiskM) : (step3 b s).1.1.n = s.1.n ∧ (step3 b s).1.1.end' = s.1.end' := by
  unfold step3
  dsimp only
  split <;> exact ⟨rfl, rfl⟩
end LogM
theorem func_slc (w : World) (o : Own) (e : TypeId) (vs : List Value) (n : Nat) (hn : vs.length = n) (hl : n ≤ 1000000) : Slc (w.alloc (.cells vs.toArray e)) (tagAt o w.heap.size (0, 0)) (.slice (some ⟨w.heap.size, 0, none⟩) n n) n vs := by
  subst hn; exact slc_new w o e vs hl

section
variable {w : World} {o : Own} {L D p pd : Nat} {s : LogM × DiskM}
set_option maxRecDepth 100000 in
set_option maxHeartbeats 6400000 in
theorem commit_any (hL : L ≠ 0) (hD : D ≠ 0) (hLD : L ≠ D) (h : LD w o L D p pd s) (hrow : s.2.row.length ≤ 700000) (b : List UInt8) (bv : Value) (hb : Bytes w o bv b) (hcapb : capLe bv) (hblen : b.length ≤ 200000000000000) :
    Calls Try.prog 40 #[.pointer (some ⟨p, 0, none⟩), bv] w (Ret (In L D) w o fun v w' o' => v = .int .i64 (LogM.commit b s).2 ∧ LD w' o' L D p pd (LogM.commit b s).1) := by
  have hN : ¬ In L D 0 := fun h => by rcases h with h | h <;> omega
  have hmE : (LogM.many b : Int) = max 1 (((b.length : Int) + 479) / 480) := by unfold LogM.many; omega
  have hmany : LogM.many b ≤ 1000000000000 := by unfold LogM.many; omega
  have hrd : LogM.many b ≤ 2000 → b.length ≤ 960000 := by intro h; unfold LogM.many at h; omega
  obtain ⟨many, hmanyE⟩ : ∃ many, LogM.many b = many := ⟨_, rfl⟩
  obtain ⟨ba, bc, rfl⟩ := slc_form hb
  have s1 := (Step.refl Nobody w o).alloc (.cells #[.pointer (some ⟨p, 0, none⟩)] 57) (0, 0)
  have bl := Box.new w o 57 (.pointer (some ⟨p, 0, none⟩))
  have z1 : (w.alloc (.cells #[.pointer (some ⟨p, 0, none⟩)] 57)).heap.size = w.heap.size + 1 := by simp
  have s2 := (Step.refl Nobody (w.alloc (.cells #[.pointer (some ⟨p, 0, none⟩)] 57)) (tagAt o w.heap.size (0, 0))).alloc (.cells #[.slice ba b.length bc] 28) (0, 0)
  have bb := Box.new (w.alloc (.cells #[.pointer (some ⟨p, 0, none⟩)] 57)) (tagAt o w.heap.size (0, 0)) 28 (.slice ba b.length bc)
  rw [z1] at s2 bb
  have z2 : ((w.alloc (.cells #[.pointer (some ⟨p, 0, none⟩)] 57)).alloc (.cells #[.slice ba b.length bc] 28)).heap.size = w.heap.size + 1 + 1 := by simp
  have s3 := (Step.refl Nobody ((w.alloc (.cells #[.pointer (some ⟨p, 0, none⟩)] 57)).alloc (.cells #[.slice ba b.length bc] 28)) (tagAt (tagAt o w.heap.size (0, 0)) (w.heap.size + 1) (0, 0))).alloc (.cells #[.int .i64 (many : Int)] 3) (0, 0)
  have bm := Box.new ((w.alloc (.cells #[.pointer (some ⟨p, 0, none⟩)] 57)).alloc (.cells #[.slice ba b.length bc] 28)) (tagAt (tagAt o w.heap.size (0, 0)) (w.heap.size + 1) (0, 0)) 3 (.int .i64 (many : Int))
  rw [z2] at s3 bm
  have sT := (s1.trans s2).trans s3
  have bl3 := (bl.step s2 (fun h => h)).step s3 (fun h => h)
  have bb3 := bb.step s3 (fun h => h)
  have hld := h.step sT (fun h => h) (fun h => h) (fun h => h)
  have hb3 := hb.step sT (fun h => h)
  have i1 : (b.length : Int) ≤ 200000000000000 := by omega
  have hmE2 : max 1 (((b.length : Int) + 480 - 1) / 480) = (many : Int) := by rw [← hmanyE, hmE]; omega
  clear s1 s2 s3 bl bb hb h z1
  have hal : Hid (Calls Try.prog 81 #[.pointer (some ⟨p, 0, none⟩), .slice (some ⟨w.heap.size + 1 + 1 + 1, 0, none⟩) 4 4]
      ((((w.alloc (.cells #[.pointer (some ⟨p, 0, none⟩)] 57)).alloc (.cells #[.slice ba b.length bc] 28)).alloc (.cells #[.int .i64 (many : Int)] 3)).alloc (.cells #[.func (.func 82) #[] #[.pointer (some ⟨w.heap.size + 1 + 1, 0, none⟩), .pointer (some ⟨w.heap.size, 0, none⟩)], .func (.func 83) #[] #[.pointer (some ⟨w.heap.size, 0, none⟩)], .func (.func 85) #[] #[.pointer (some ⟨w.heap.size, 0, none⟩), .pointer (some ⟨w.heap.size + 1, 0, none⟩), .pointer (some ⟨w.heap.size + 1 + 1, 0, none⟩)], .func (.func 88) #[] #[.pointer (some ⟨w.heap.size, 0, none⟩), .pointer (some ⟨w.heap.size + 1, 0, none⟩), .pointer (some ⟨w.heap.size + 1 + 1, 0, none⟩)]] 30))
      (Ret (In L D) w o fun v w' o' => v = .int .i64 (LogM.commit b s).2 ∧ LD w' o' L D p pd (LogM.commit b s).1)) := by
    refine hidden ?_
    have z3 : (((w.alloc (.cells #[.pointer (some ⟨p, 0, none⟩)] 57)).alloc (.cells #[.slice ba b.length bc] 28)).alloc (.cells #[.int .i64 (many : Int)] 3)).heap.size = w.heap.size + 1 + 1 + 1 := by simp
    generalize ((w.alloc (.cells #[.pointer (some ⟨p, 0, none⟩)] 57)).alloc (.cells #[.slice ba b.length bc] 28)).alloc (.cells #[.int .i64 (many : Int)] 3) = W3 at *
    generalize tagAt (tagAt (tagAt o w.heap.size (0, 0)) (w.heap.size + 1) (0, 0)) (w.heap.size + 1 + 1) (0, 0) = o3 at *
    obtain ⟨x1, hx1⟩ : ∃ x1, w.heap.size + 1 = x1 := ⟨_, rfl⟩
    obtain ⟨x2, hx2⟩ : ∃ x2, x1 + 1 = x2 := ⟨_, rfl⟩
    rw [hx1] at bb3 bm z3 ⊢
    rw [hx2] at bm z3 ⊢
    generalize w.heap.size = x0 at bl3 ⊢
    have s4 := (Step.refl Nobody W3 o3).alloc (.cells #[.func (.func 82) #[] #[.pointer (some ⟨x2, 0, none⟩), .pointer (some ⟨x0, 0, none⟩)], .func (.func 83) #[] #[.pointer (some ⟨x0, 0, none⟩)], .func (.func 85) #[] #[.pointer (some ⟨x0, 0, none⟩), .pointer (some ⟨x1, 0, none⟩), .pointer (some ⟨x2, 0, none⟩)], .func (.func 88) #[] #[.pointer (some ⟨x0, 0, none⟩), .pointer (some ⟨x1, 0, none⟩), .pointer (some ⟨x2, 0, none⟩)]] 30) (0, 0)
    have hsl := func_slc W3 o3 30 [.func (.func 82) #[] #[.pointer (some ⟨x2, 0, none⟩), .pointer (some ⟨x0, 0, none⟩)], .func (.func 83) #[] #[.pointer (some ⟨x0, 0, none⟩)], .func (.func 85) #[] #[.pointer (some ⟨x0, 0, none⟩), .pointer (some ⟨x1, 0, none⟩), .pointer (some ⟨x2, 0, none⟩)], .func (.func 88) #[] #[.pointer (some ⟨x0, 0, none⟩), .pointer (some ⟨x1, 0, none⟩), .pointer (some ⟨x2, 0, none⟩)]] 4 rfl (by omega)
    rw [z3] at hsl
    have hld4 := hld.step s4 (fun h => h) (fun h => h) (fun h => h)
    have hb4 := hb3.step s4 (fun h => h)
    have bl4 := bl3.step s4 (fun h => h)
    have bb4 := bb3.step s4 (fun h => h)
    have bm4 := bm.step s4 (fun h => h)
    have sT4 : Step (In L D) w o _ _ := (sT.trans s4).in0
    rw [z3] at s4 hld4 hb4 bl4 bb4 bm4 sT4
    clear hsl
    have hsl := func_slc W3 o3 30 [.func (.func 82) #[] #[.pointer (some ⟨x2, 0, none⟩), .pointer (some ⟨x0, 0, none⟩)], .func (.func 83) #[] #[.pointer (some ⟨x0, 0, none⟩)], .func (.func 85) #[] #[.pointer (some ⟨x0, 0, none⟩), .pointer (some ⟨x1, 0, none⟩), .pointer (some ⟨x2, 0, none⟩)], .func (.func 88) #[] #[.pointer (some ⟨x0, 0, none⟩), .pointer (some ⟨x1, 0, none⟩), .pointer (some ⟨x2, 0, none⟩)]] 4 rfl (by omega)
    rw [z3] at hsl
    generalize hW4 : W3.alloc (.cells #[.func (.func 82) #[] #[.pointer (some ⟨x2, 0, none⟩), .pointer (some ⟨x0, 0, none⟩)], .func (.func 83) #[] #[.pointer (some ⟨x0, 0, none⟩)], .func (.func 85) #[] #[.pointer (some ⟨x0, 0, none⟩), .pointer (some ⟨x1, 0, none⟩), .pointer (some ⟨x2, 0, none⟩)], .func (.func 88) #[] #[.pointer (some ⟨x0, 0, none⟩), .pointer (some ⟨x1, 0, none⟩), .pointer (some ⟨x2, 0, none⟩)]] 30) = W4 at *
    have hsl' := hsl
    generalize tagAt o3 (x2 + 1) (0, 0) = o4 at *
    clear hsl hW4
    cases hdd : (s.1.dead || s.2.dead) with
    | true =>
      have hE : LogM.commit b s = (s, 9) := by unfold LogM.commit LogM.alive; rw [if_pos hdd]
      refine (alive_dead hld4 hdd _ _ _).mono ?_
      rintro e w' ⟨v, o', rfl, hs, rfl⟩
      rw [hE]
      exact ⟨_, o', rfl, sT4.trans hs.in0, rfl, hld4.step hs (fun h => h) (fun h => h) (fun h => h)⟩
    | false =>
      obtain ⟨fs, hfs⟩ : ∃ fs : List LogM.Act1, fs = [LogM.step1 b, LogM.step2, LogM.step3 b, LogM.step4 b] := ⟨_, rfl⟩
      have hE : LogM.commit b s = LogM.goes (LogM.stN fs s) (LogM.erN fs s) 0 4 := by
        rw [LogM.goes_steps fs s 4 0 (by rw [hfs]; rfl)]
        unfold LogM.commit LogM.alive
        rw [if_neg (by rw [hdd]; simp), hfs]; rfl
      have e1 : LogM.stN fs s 1 = (LogM.step1 b s).1 ∧ LogM.erN fs s 0 = (LogM.step1 b s).2 := by rw [hfs]; exact ⟨rfl, rfl⟩
      have e2 : LogM.stN fs s 2 = (LogM.step2 (LogM.stN fs s 1)).1 ∧ LogM.erN fs s 1 = (LogM.step2 (LogM.stN fs s 1)).2 := by rw [hfs]; exact ⟨rfl, rfl⟩
      have e3 : LogM.stN fs s 3 = (LogM.step3 b (LogM.stN fs s 2)).1 ∧ LogM.erN fs s 2 = (LogM.step3 b (LogM.stN fs s 2)).2 := by rw [hfs]; exact ⟨rfl, rfl⟩
      have e4 : LogM.stN fs s 4 = (LogM.step4 b (LogM.stN fs s 3)).1 ∧ LogM.erN fs s 3 = (LogM.step4 b (LogM.stN fs s 3)).2 := by rw [hfs]; exact ⟨rfl, rfl⟩
      clear hfs
      have q1 : LogM.stN fs s 1 = s := e1.1.trans (LogM.step1_same b s)
      have r0 : LogM.erN fs s 0 = 0 → many ≤ s.1.n - s.1.end' := by
        rw [e1.2]; unfold LogM.step1
        rw [hmanyE]
        intro h
        split at h
        · cases h
        · omega
      have q2 := LogM.step2_same (LogM.stN fs s 1)
      rw [← e2.1, q1] at q2
      have q3 := LogM.step3_same b (LogM.stN fs s 2)
      rw [← e3.1] at q3
      have hwf := hld.1.wf
      refine (alive_any hL hD hLD (LogM.stN fs s) (LogM.erN fs s) hld4 hdd 4 (by omega) _ rfl (fun i => [82, 83, 85, 88].getD i 0) (fun _ => #[]) (fun i => ([#[.pointer (some ⟨x2, 0, none⟩), .pointer (some ⟨x0, 0, none⟩)], #[.pointer (some ⟨x0, 0, none⟩)], #[.pointer (some ⟨x0, 0, none⟩), .pointer (some ⟨x1, 0, none⟩), .pointer (some ⟨x2, 0, none⟩)], #[.pointer (some ⟨x0, 0, none⟩), .pointer (some ⟨x1, 0, none⟩), .pointer (some ⟨x2, 0, none⟩)]] : List (Array Value)).getD i #[]) ?_ ?_ _ _ hsl' ?_).mono ?_
      · intro i hi
        have : i = 0 ∨ i = 1 ∨ i = 2 ∨ i = 3 := by omega
        rcases this with rfl | rfl | rfl | rfl <;> rfl
      · intro i args x hi
        have : i = 0 ∨ i = 1 ∨ i = 2 ∨ i = 3 := by omega
        rcases this with rfl | rfl | rfl | rfl
        · exact Try.call82 args x
        · exact Try.call83 args x
        · exact Try.call85 args x
        · exact Try.call88 args x
      · intro i hi hj w1 o1 hst hl1
        have B0 := bl4.step hst hN
        have B1 := bb4.step hst hN
        have B2 := bm4.step hst hN
        have Bb := hb4.step hst hN
        rw [← hmanyE] at B2
        have : i = 0 ∨ i = 1 ∨ i = 2 ∨ i = 3 := by omega
        rcases this with rfl | rfl | rfl | rfl
        · have := step1_any (s := LogM.stN fs s 0) hl1 b hmany x2 x0 B2 B0
          show Calls Try.prog 82 _ w1 _
          rw [e1.1, e1.2]; exact this
        · have := step2_any hL hD hLD hl1 (by rw [q1]; omega) x0 B0
          show Calls Try.prog 83 _ w1 _
          rw [e2.1, e2.2]; exact this
        · have hr := r0 (hj 0 (by omega))
          have := step3_any hL hD hLD hl1 (by omega) b _ Bb hcapb (by rw [q2.1, q2.2.1, hmanyE]; exact hr) (hrd (by rw [hmanyE]; obtain ⟨_, _, h3, _⟩ := hwf; omega)) x0 x1 x2 B0 B1 B2
          show Calls Try.prog 85 _ w1 _
          rw [e3.1, e3.2]; exact this
        · have hr := r0 (hj 0 (by omega))
          have := step4_any hL hLD hl1 b _ Bb (by rw [q3.1, q3.2, q2.1, q2.2.1, hmanyE]; exact hr) (hrd (by rw [hmanyE]; obtain ⟨_, _, h3, _⟩ := hwf; omega)) x0 x1 x2 B0 B1 B2
          show Calls Try.prog 88 _ w1 _
          rw [e4.1, e4.2]; exact this
      · rintro e w' ⟨v, o', rfl, hs, rfl, hl⟩
        rw [hE]
        exact ⟨_, o', rfl, sT4.trans hs, rfl, hl⟩
  clear hld hb3 bl3 bb3 bm sT hmE z2
  by_cases hq : ((b.length : Int) + 480 - 1) / 480 ≤ 1
  rotate_left
  · have e : ((b.length : Int) + 480 - 1) / 480 = (many : Int) := by omega
    rw [← e] at hal
    clear e hmE2 hmanyE
    go_enter Try.func40, Try.ntmps40
    go_wp2_with fail
    refine hal.out.mono ?_; rintro e w' ⟨v, o', rfl, hs, rfl, hl⟩
    go_wp2_with fail
    go_ret
    exact ⟨_, o', rfl, hs, rfl, hl⟩
  · have e : (1 : Int) = (many : Int) := by omega
    rw [← e] at hal
    clear e hmE2 hmanyE
    go_enter Try.func40, Try.ntmps40
    go_wp2_with fail
    refine hal.out.mono ?_; rintro e w' ⟨v, o', rfl, hs, rfl, hl⟩
    go_wp2_with fail
    go_ret
    exact ⟨_, o', rfl, hs, rfl, hl⟩
end
end Go.Proofs.YtfgggkheadfiaaaR
