/- The statement LogParts: two logs of one disk; the walk. -/
import Derived.Test.YtfgggkheadfiaaaRLaw08f
namespace Go.Proofs.YtfgggkheadfiaaaR
open Go Go.RowKit
attribute [local go_sem ↓] Go.wp_at_zero Go.wp_at_succ

namespace LogM
theorem ofPages_blank' (f k : Nat) : ofPages f (List.replicate k DiskM.blank) = raw f k 0 := by
  unfold ofPages raw
  rw [leaves_blank, newest_blank, List.length_replicate]; rfl
theorem pageOk_blank : PageOk 0 DiskM.blank := ⟨by decide +kernel, by decide +kernel, by decide +kernel, by decide +kernel⟩
theorem seen_new_at (k f n : Nat) (h : f + n ≤ k) : seenPages (DiskM.new k) f n = List.replicate n DiskM.blank := by
  refine seenPages_ext (by simp) fun j hj => ?_
  rw [List.getElem?_replicate, if_pos hj]
  simp [DiskM.seen, DiskM.seenIn, DiskM.new, show f + j < k by omega]
theorem wf_new {k : Nat} (h1 : 1 ≤ k) (h2 : k ≤ 4096) : (DiskM.new k).wf := by
  refine ⟨by simpa [DiskM.new] using h1, by simpa [DiskM.new] using h2, fun p hp => ?_, by simp [DiskM.new], by simp [DiskM.new], by simp [DiskM.new]⟩
  rw [List.eq_of_mem_replicate hp]; exact length_blank
theorem good_new {k f n : Nat} (h : f + n ≤ k) (hn : 2 ≤ n) (hk : k ≤ 4096) : Good 0 (raw f n 0, DiskM.new k) := by
  refine ⟨rfl, rfl, ⟨?_, by show f + n ≤ (DiskM.new k).pages.length; simpa [DiskM.new] using h, hn, wf_new (by omega) hk⟩, fun j hj => ?_⟩
  · show raw f n 0 = ofPages f (seenPages (DiskM.new k) f n)
    rw [seen_new_at k f n h, ofPages_blank']
  · have hj' : j < n := hj
    have : (DiskM.new k).seen (f + j) = DiskM.blank := by simp [DiskM.seen, DiskM.seenIn, DiskM.new, show f + j < k by omega]
    show PageOk 0 ((DiskM.new k).seen (f + j))
    rw [this]; exact pageOk_blank
theorem Good.mono {K K' : Nat} {s : LogM × DiskM} (h : Good K s) (hK : K ≤ K') : Good K' s := ⟨h.dd, h.row, h.fine, fun j hj => (h.pg j hj).mono hK⟩
/-- While the power stays: Commit. -/
theorem Good.commit {K : Nat} {s : LogM × DiskM} (h : Good K s) (hl : s.2.left < 0) (hK : K + 2 < 65536) (b : List UInt8) :
    ∃ s' e, LogM.commit b s = (s', e) ∧ Good (K + 2) s' ∧ s'.2.left < 0 ∧ s'.1.n = s.1.n ∧ s'.1.first = s.1.first ∧ Oth s.1.first s.1.n s.2 s'.2 ∧
      ((many b ≤ s.1.n - s.1.end' ∧ e = 0 ∧ s'.1.records = s.1.records ++ [b] ∧ s'.1.end' = s.1.end' + many b) ∨ (s.1.n - s.1.end' < many b ∧ e = 4 ∧ s'.1.records = s.1.records ∧ s'.1.end' = s.1.end')) := by
  rcases commit_cases h hK b with ⟨h1, h2⟩ | ⟨h1, s', h2, h3, h4, h5, h6, h7, h8, h9⟩ | ⟨h1, _⟩
  · exact ⟨s, 4, h2, h.mono (by omega), hl, rfl, rfl, Oth.refl _ _ _, .inr ⟨h1, rfl, rfl, rfl⟩⟩
  · exact ⟨s', 0, h2, h3, by rw [h9 hl]; exact hl, h6, h7, h8, .inl ⟨h1, rfl, h4, h5⟩⟩
  · omega
theorem Good.reset {K : Nat} {s : LogM × DiskM} (h : Good K s) (hl : s.2.left < 0) (hK : K + 1 < 65536) :
    ∃ s', LogM.reset s = (s', 0) ∧ Good (K + 1) s' ∧ s'.2.left < 0 ∧ s'.1.n = s.1.n ∧ s'.1.first = s.1.first ∧ Oth s.1.first s.1.n s.2 s'.2 ∧ s'.1.records = [] ∧ s'.1.end' = 1 := by
  rcases reset_cases h hK with ⟨s', h2, h3, h4, h5, h6, h7, h8, h9⟩ | ⟨h1, _⟩
  · exact ⟨s', h2, h3, by rw [h9 hl]; exact hl, h6, h7, h8, h4, h5⟩
  · omega
theorem Good.room_eq {K : Nat} {s : LogM × DiskM} (_h : Good K s) {n e : Nat} (hn : s.1.n = n) (he : s.1.end' = e) : s.1.room = 480 * (n - e) := by unfold room; rw [hn, he]

/-- Two logs a, b of the disk d, and s, a log of its own, that does as a does. -/
structure Two8 (K : Nat) (a b : LogM) (d : DiskM) (s : LogM × DiskM) : Prop where
  ga : Good K (a, d)
  gb : Good K (b, d)
  gs : Good K s
  ld : d.left < 0
  ls : s.2.left < 0
  fa : a.first = 0 ∧ a.n = 8
  fb : b.first = 8 ∧ b.n = 8
  fs : s.1.n = 8
  re : s.1.records = a.records ∧ s.1.end' = a.end'
theorem two8_new : Two8 0 (raw 0 8 0) (raw 8 8 0) (DiskM.new 16) (raw 0 8 0, DiskM.new 8) :=
  ⟨good_new (by omega) (by omega) (by omega), good_new (by omega) (by omega) (by omega), good_new (by omega) (by omega) (by omega), by decide, by decide, ⟨rfl, rfl⟩, ⟨rfl, rfl⟩, rfl, rfl, rfl⟩
theorem Two8.commitB {K : Nat} {a b : LogM} {d : DiskM} {s : LogM × DiskM} (h : Two8 K a b d s) (hK : K + 2 < 65536) (t : List UInt8) :
    ∃ b' d' e, LogM.commit t (b, d) = ((b', d'), e) ∧ Two8 (K + 2) a b' d' s := by
  obtain ⟨⟨b', d'⟩, e, h1, h2, h3, h4, h5, h6, -⟩ := h.gb.commit h.ld hK t
  simp only [h.fb.1, h.fb.2] at h4 h5 h6
  exact ⟨b', d', e, h1, (h.ga.oth h6 h2.dd h2.row h2.fine.2.2.2 (by simp only [h.fa.1, h.fa.2]; omega)).mono (by omega), h2, h.gs.mono (by omega), h3, h.ls, h.fa, ⟨h5, h4⟩, h.fs, h.re⟩
theorem Two8.resetB {K : Nat} {a b : LogM} {d : DiskM} {s : LogM × DiskM} (h : Two8 K a b d s) (hK : K + 1 < 65536) :
    ∃ b' d', LogM.reset (b, d) = ((b', d'), 0) ∧ Two8 (K + 1) a b' d' s := by
  obtain ⟨⟨b', d'⟩, h1, h2, h3, h4, h5, h6, -⟩ := h.gb.reset h.ld hK
  simp only [h.fb.1, h.fb.2] at h4 h5 h6
  exact ⟨b', d', h1, (h.ga.oth h6 h2.dd h2.row h2.fine.2.2.2 (by simp only [h.fa.1, h.fa.2]; omega)).mono (by omega), h2, h.gs.mono (by omega), h3, h.ls, h.fa, ⟨h5, h4⟩, h.fs, h.re⟩
theorem Two8.commitA {K : Nat} {a b : LogM} {d : DiskM} {s : LogM × DiskM} (h : Two8 K a b d s) (hK : K + 2 < 65536) (t : List UInt8) :
    ∃ a' d' s' e, LogM.commit t (a, d) = ((a', d'), e) ∧ LogM.commit t s = (s', e) ∧ Two8 (K + 2) a' b d' s' := by
  obtain ⟨⟨a', d'⟩, e, h1, h2, h3, h4, h5, h6, h7⟩ := h.ga.commit h.ld hK t
  obtain ⟨s', e2, k1, k2, k3, k4, -, -, k7⟩ := h.gs.commit h.ls hK t
  simp only [h.fa.1, h.fa.2] at h4 h5 h6 h7
  rw [h.fs, h.re.1, h.re.2] at k7
  rw [h.fs] at k4
  have he : e2 = e ∧ s'.1.records = a'.records ∧ s'.1.end' = a'.end' := by
    rcases h7 with ⟨p1, p2, p3, p4⟩ | ⟨p1, p2, p3, p4⟩ <;> rcases k7 with ⟨q1, q2, q3, q4⟩ | ⟨q1, q2, q3, q4⟩
    · exact ⟨q2.trans p2.symm, q3.trans p3.symm, q4.trans p4.symm⟩
    · omega
    · omega
    · exact ⟨q2.trans p2.symm, q3.trans p3.symm, q4.trans p4.symm⟩
  rw [he.1] at k1
  exact ⟨a', d', s', e, h1, k1, h2, (h.gb.oth h6 h2.dd h2.row h2.fine.2.2.2 (by simp only [h.fb.1, h.fb.2]; omega)).mono (by omega), k2, h3, k3, ⟨h5, h4⟩, h.fb, k4, he.2⟩
theorem Two8.resetA {K : Nat} {a b : LogM} {d : DiskM} {s : LogM × DiskM} (h : Two8 K a b d s) (hK : K + 1 < 65536) :
    ∃ a' d' s', LogM.reset (a, d) = ((a', d'), 0) ∧ LogM.reset s = (s', 0) ∧ Two8 (K + 1) a' b d' s' := by
  obtain ⟨⟨a', d'⟩, h1, h2, h3, h4, h5, h6, h7, h8⟩ := h.ga.reset h.ld hK
  obtain ⟨s', k1, k2, k3, k4, -, -, k7, k8⟩ := h.gs.reset h.ls hK
  simp only [h.fa.1, h.fa.2] at h4 h5 h6 h7 h8
  rw [h.fs] at k4
  exact ⟨a', d', s', h1, k1, h2, (h.gb.oth h6 h2.dd h2.row h2.fine.2.2.2 (by simp only [h.fb.1, h.fb.2]; omega)).mono (by omega), k2, h3, k3, ⟨h5, h4⟩, h.fb, k4, k7.trans h7.symm, k8.trans h8.symm⟩
theorem Two8.mono {K K' : Nat} {a b : LogM} {d : DiskM} {s : LogM × DiskM} (h : Two8 K a b d s) (hK : K ≤ K') : Two8 K' a b d s := ⟨h.ga.mono hK, h.gb.mono hK, h.gs.mono hK, h.ld, h.ls, h.fa, h.fb, h.fs, h.re⟩
theorem Two8.rooms {K : Nat} {a b : LogM} {d : DiskM} {s : LogM × DiskM} (h : Two8 K a b d s) : s.1.room = a.room := by unfold room; rw [h.fs, h.fa.2, h.re.2]
theorem Two8.again {K : Nat} {a b : LogM} {d : DiskM} {s : LogM × DiskM} (h : Two8 K a b d s) (hK : K < 65536) : newest (seenPages d 0 8) ≠ BitVec.allOnes 64 ∧ ofPages 0 (seenPages d 0 8) = a := by
  have hf := h.ga.fine.1
  have hn := h.ga.newest
  have hs := h.ga.stamp_le
  simp only [h.fa.1, h.fa.2] at hf hn hs
  refine ⟨?_, hf.symm⟩
  rw [hn]; intro he; rw [he] at hs; simp at hs; omega
end LogM

set_option maxRecDepth 100000 in
set_option maxHeartbeats 6400000 in
theorem logParts_walk {w : World} {o : Own} (which : Int) (_hw0 : 0 ≤ which) (_hw1 : which ≤ 4294967295) {v : Value} {l : List Try8} (hl : Tries8 w o v l) :
    Calls Try.prog 10 #[v, .int .u32 which] w (Ret Nobody w o fun v _ _ => v = .bool true) := by
  obtain ⟨M, -, hM⟩ := tag_bound o 0 w.heap.size
  obtain ⟨D, hD⟩ : ∃ D, D = M + 1 := ⟨_, rfl⟩
  obtain ⟨A, hA⟩ : ∃ A, A = M + 2 := ⟨_, rfl⟩
  obtain ⟨B, hB⟩ : ∃ B, B = M + 3 := ⟨_, rfl⟩
  obtain ⟨C, hC⟩ : ∃ C, C = M + 4 := ⟨_, rfl⟩
  obtain ⟨E, hE⟩ : ∃ E, E = M + 5 := ⟨_, rfl⟩
  have hD0 : D ≠ 0 := by omega
  have hA0 : A ≠ 0 := by omega
  have hB0 : B ≠ 0 := by omega
  have hC0 : C ≠ 0 := by omega
  have hE0 : E ≠ 0 := by omega
  have hAD : A ≠ D := by omega
  have hBD : B ≠ D := by omega
  have hEC : C ≠ E := by omega
  have mA : M < A := by omega
  have mB : M < B := by omega
  have mC : M < C := by omega
  have mD : M < D := by omega
  have mE : M < E := by omega
  have hT0 : ¬ Above M 0 := fun h => by change M < 0 at h; omega
  have nBA : ¬ In B D A := fun h => by rcases h with h | h <;> omega
  have nBC : ¬ In B D C := fun h => by rcases h with h | h <;> omega
  have nBE : ¬ In B D E := fun h => by rcases h with h | h <;> omega
  have nB0 : ¬ In B D 0 := fun h => by rcases h with h | h <;> omega
  have nAB : ¬ In A D B := fun h => by rcases h with h | h <;> omega
  have nAC : ¬ In A D C := fun h => by rcases h with h | h <;> omega
  have nAE : ¬ In A D E := fun h => by rcases h with h | h <;> omega
  have nA0 : ¬ In A D 0 := fun h => by rcases h with h | h <;> omega
  have nCA : ¬ In C E A := fun h => by rcases h with h | h <;> omega
  have nCB : ¬ In C E B := fun h => by rcases h with h | h <;> omega
  have nCD : ¬ In C E D := fun h => by rcases h with h | h <;> omega
  have nC0 : ¬ In C E 0 := fun h => by rcases h with h | h <;> omega
  have oBA : ¬ Only B A := fun h => by change _ = _ at h; omega
  have oBD : ¬ Only B D := fun h => by change _ = _ at h; omega
  have oB0 : ¬ Only B 0 := fun h => by change _ = _ at h; omega
  have oCA : ¬ Only C A := fun h => by change _ = _ at h; omega
  have oCB : ¬ Only C B := fun h => by change _ = _ at h; omega
  have oCD : ¬ Only C D := fun h => by change _ = _ at h; omega
  have oC0 : ¬ Only C 0 := fun h => by change _ = _ at h; omega
  have oAD : ¬ Only A D := fun h => by change _ = _ at h; omega
  have oBC : ¬ Only B C := fun h => by change _ = _ at h; omega
  have oBE : ¬ Only B E := fun h => by change _ = _ at h; omega
  clear hD hA hB hC hE
  have nn : ∀ k, ¬ Nobody k := fun _ h => h
  obtain ⟨a, c, rfl⟩ := hl.form
  by_cases hmany : 30 < l.length
  · have hmi : (30 : Int) < (l.length : Int) := by omega
    have hwk := wakes8_any w o
    clear hl
    generalize l.length = ll at *
    go_enter Try.func10, Try.ntmps10
    go_wp2_with fail
    refine hwk.mono ?_; rintro e wc ⟨v, oc, rfl, hs, rfl⟩
    go_wp2_with fail
    go_ret
    exact ⟨_, oc, rfl, hs, rfl⟩
  have hmi : ¬ (30 : Int) < (l.length : Int) := by omega
  obtain ⟨ll, hll⟩ : ∃ ll, l.length = ll := ⟨_, rfl⟩
  rw [hll] at hl hmi ⊢
  have hlH := hidden hl
  have hllH := hidden hll
  have hll30 : (ll : Int) ≤ 30 := by omega
  have hnew := new_ok 16 w o D (by omega) (by omega)
  clear hl hll hmany
  go_enter Try.func10, Try.ntmps10
  go_wp2_with fail
  refine hnew.mono ?_; rintro e wc ⟨v, oc, rfl, hs, pd, -, rfl, hd⟩
  have hst := hs.above0 (M := M)
  have hx := open_yes hA0 hD0 hAD hd (by simp [DiskM.new]) rfl 0 8 (by omega) (by omega) (by simp [DiskM.new])
  rw [LogM.seen_new_at 16 0 8 (by omega)] at hx
  clear hs hnew
  go_wp2_with fail
  refine hx.mono ?_; rintro e wc' ⟨v, oc', rfl, hs, hop⟩
  obtain ⟨pa, -, rfl, hla⟩ := hop.2 (by rw [newest_blank]; decide)
  rw [LogM.ofPages_blank'] at hla
  have hst := hst.trans (hs.above1 mA)
  have hd := hd.step hs oAD
  have hx := open_yes hB0 hD0 hBD hd (by simp [DiskM.new]) rfl 8 8 (by omega) (by omega) (by simp [DiskM.new])
  rw [LogM.seen_new_at 16 8 8 (by omega)] at hx
  clear hs hop
  go_wp2_with fail
  refine hx.mono ?_; rintro e wc ⟨v, oc, rfl, hs, hop⟩
  obtain ⟨pb, -, rfl, hlb⟩ := hop.2 (by rw [newest_blank]; decide)
  rw [LogM.ofPages_blank'] at hlb
  have hst := hst.trans (hs.above1 mB)
  have hd := hd.step hs oBD
  have hla := hla.step hs oBA oB0
  have hx := made_is (w := wc) (o := oc) hC0 hE0 hEC 8 (by omega) (by omega)
  clear hs hop
  go_wp2_with fail
  refine hx.mono ?_; rintro e wc' ⟨v, oc', rfl, hs, pe, pc, -, -, rfl, hlc⟩
  have hst := hst.trans (hs.above1 mC)
  have hd := hd.step hs oCD
  have hla := hla.step hs oCA oC0
  have hlb := hlb.step hs oCB oC0
  clear hs hx
  go_wp2_with fail
  go_loopw [13] (fun i wr => ∃ (j : Nat) (oj : Own) (ma mb : LogM) (d : DiskM) (s : LogM × DiskM), j ≤ ll ∧ i = .int .i64 j ∧ LD wr oj A D pa pd (ma, d) ∧ LogAt wr oj B pb pd mb ∧ LD wr oj C E pc pe s ∧ Step (Above M) w o wr oj ∧ LogM.Two8 (3 * j) ma mb d s)
    (fun i _ => ll - (intOf i).toNat)
  case atStart => exact ⟨0, oc', _, _, _, _, Nat.zero_le _, rfl, ⟨hla, hd⟩, hlb, hlc, hst, LogM.two8_new⟩
  case round =>
    clear hla hlb hlc hd hst
    obtain ⟨j, oj, ma, mb, d, s, hj, rfl, hla, hlb, hlc, hst, hI'⟩ := hrel
    have hI := hidden (show LogM.Two8 (3 * j) ma mb d s from hI')
    clear hI'
    have hrd : d.row.length ≤ 700000 := by have := hI.out.ga.row; simp only at this; rw [this]; simp
    have hrs : s.2.row.length ≤ 700000 := by rw [hI.out.gs.row]; simp
    have hrdH := hidden hrd
    have hrsH := hidden hrs
    clear hrd hrs
    by_cases hlt : j < ll
    · obtain ⟨bq, off, haE, hbo, hbl, hok, c0, c1, c2, c3⟩ := (hlH.out.step hst hT0).at j (by rw [hllH.out]; exact hlt)
      subst haE
      obtain ⟨t, ht⟩ : ∃ t : Try8, l[j]'(by rw [hllH.out]; exact hlt) = t := ⟨_, rfl⟩
      rw [ht] at hok c0 c1 c2 c3
      obtain ⟨rs, tb, tn, tf⟩ := t
      simp only at c0 c1 c2 c3
      obtain ⟨⟨hn0, hn1⟩, -⟩ := hok
      simp only at hn0 hn1
      clear ht c3
      have hby := fun (W : World) (O : Own) => bytes8_any (.int .u8 0) tb tn ⟨hn0, hn1⟩ (.int .i64 0) W O
      have hbyH := hidden hby
      clear hby
      go_wp2_with fail
      refine wp_region_need (fun w' => w'.cell? ⟨bq, off + j * 4, none⟩ = some (.bool rs) ∧ w'.cell? ⟨bq, off + j * 4 + 1, none⟩ = some (.int .u8 (tb.toNat : Int)) ∧ w'.cell? ⟨bq, off + j * 4 + 2, none⟩ = some (.int .u16 tn)) (fun _ => true) (by kernel_rfl) ⟨c0, c1, c2⟩ (fun hHeld => ?_)
      refine wpAnyN_take (i := 0) (v := ?_) rfl (by kernel_rfl) (by kernel_rfl) (by kernel_rfl) (by kernel_rfl) (fun _ _ _ h => h) (Or.inl ⟨by rfl, ?_⟩) (by assumption) ?_
      rotate_left
      · intro w hSw; ((try dsimp only at hSw); go_simp; (try with_reducible rfl))
      simp only [Act.put, List.setIfInBounds_toArray, List.set_cons_zero, List.set_cons_succ]
      refine wpAnyN_take (i := 1) (v := ?_) rfl (by kernel_rfl) (by kernel_rfl) (by kernel_rfl) (by kernel_rfl) (fun _ _ _ h => h) (Or.inl ⟨by rfl, ?_⟩) (by assumption) ?_
      rotate_left
      · intro w hSw; ((try dsimp only at hSw); go_simp; (try with_reducible rfl))
      simp only [Act.put, List.setIfInBounds_toArray, List.set_cons_zero, List.set_cons_succ]
      refine wpAnyN_take (i := 2) (v := ?_) rfl (by kernel_rfl) (by kernel_rfl) (by kernel_rfl) (by kernel_rfl) (fun _ _ _ h => h) (Or.inl ⟨by rfl, ?_⟩) (by assumption) ?_
      rotate_left
      · intro w hSw; ((try dsimp only at hSw); go_simp; (try with_reducible rfl))
      simp only [Act.put, List.setIfInBounds_toArray, List.set_cons_zero, List.set_cons_succ]
      refine wpAnyN_take (i := 3) (v := ?_) rfl (by kernel_rfl) (by kernel_rfl) (by kernel_rfl) (by kernel_rfl) (fun _ _ _ h => h) (Or.inl ⟨by rfl, ?_⟩) (by assumption) ?_
      rotate_left
      · intro w hSw; ((try dsimp only at hSw); go_simp; (try with_reducible rfl))
      simp only [Act.put, List.setIfInBounds_toArray, List.set_cons_zero, List.set_cons_succ]
      refine wpAnyN_take (i := 4) (v := ?_) rfl (by kernel_rfl) (by kernel_rfl) (by kernel_rfl) (by kernel_rfl) (fun _ _ _ h => h) (Or.inl ⟨by rfl, ?_⟩) (by assumption) ?_
      rotate_left
      · intro w hSw; ((try dsimp only at hSw); go_simp; (try with_reducible rfl))
      simp only [Act.put, List.setIfInBounds_toArray, List.set_cons_zero, List.set_cons_succ]
      refine wpAnyN_take (i := 5) (v := ?_) rfl (by kernel_rfl) (by kernel_rfl) (by kernel_rfl) (by kernel_rfl) (fun _ _ _ h => h) (Or.inl ⟨by rfl, ?_⟩) (by assumption) ?_
      rotate_left
      · intro w hSw; ((try dsimp only at hSw); go_simp; (try with_reducible rfl))
      simp only [Act.put, List.setIfInBounds_toArray, List.set_cons_zero, List.set_cons_succ]
      refine wpAnyN_take (i := 6) (v := ?_) rfl (by kernel_rfl) (by kernel_rfl) (by kernel_rfl) (by kernel_rfl) (fun _ _ _ h => h) (Or.inl ⟨by rfl, ?_⟩) (by assumption) ?_
      rotate_left
      · intro w hSw; ((try dsimp only at hSw); go_simp; (try with_reducible rfl))
      simp only [Act.put, List.setIfInBounds_toArray, List.set_cons_zero, List.set_cons_succ]
      refine wpAnyN_take (i := 7) (v := ?_) rfl (by kernel_rfl) (by kernel_rfl) (by kernel_rfl) (by kernel_rfl) (fun _ _ _ h => h) (Or.inl ⟨by rfl, ?_⟩) (by assumption) ?_
      rotate_left
      · intro w hSw; ((try dsimp only at hSw); go_simp; (try with_reducible rfl))
      simp only [Act.put, List.setIfInBounds_toArray, List.set_cons_zero, List.set_cons_succ]
      refine wpAnyN_take (i := 8) (v := ?_) rfl (by kernel_rfl) (by kernel_rfl) (by kernel_rfl) (by kernel_rfl) (fun _ _ _ h => h) (Or.inl ⟨by rfl, ?_⟩) (by assumption) ?_
      rotate_left
      · intro w hSw; ((try dsimp only at hSw); go_simp; (try with_reducible rfl))
      simp only [Act.put, List.setIfInBounds_toArray, List.set_cons_zero, List.set_cons_succ]
      refine wpAnyN_take (i := 9) (v := ?_) rfl (by kernel_rfl) (by kernel_rfl) (by kernel_rfl) (by kernel_rfl) (fun _ _ _ h => h) (Or.inl ⟨by rfl, ?_⟩) (by assumption) ?_
      rotate_left
      · intro w hSw; ((try dsimp only at hSw); go_simp; (try with_reducible rfl))
      simp only [Act.put, List.setIfInBounds_toArray, List.set_cons_zero, List.set_cons_succ]
      refine wpAnyN_take (i := 10) (v := ?_) rfl (by kernel_rfl) (by kernel_rfl) (by kernel_rfl) (by kernel_rfl) (fun _ _ _ h => h) (Or.inl ⟨by rfl, ?_⟩) (by assumption) ?_
      rotate_left
      · intro w hSw; ((try dsimp only at hSw); go_simp; (try with_reducible rfl))
      simp only [Act.put, List.setIfInBounds_toArray, List.set_cons_zero, List.set_cons_succ]
      refine wpAnyN_one (i := 11) rfl (by kernel_rfl) ?_
      go_wp2_with fail
      refine (hbyH.out wr.drew oj).mono ?_; rintro e w1 ⟨v1, o1, rfl, hs0, g, rfl, hb⟩
      have hs1 : Step Nobody wr oj w1 o1 := (Step.refl Nobody wr oj).drew.trans hs0
      clear hs0
      have eb := hs1.block bq hbl (nn _)
      have hS1 : w1.cell? ⟨bq, off + j * 4, none⟩ = some (.bool rs) ∧ w1.cell? ⟨bq, off + j * 4 + 1, none⟩ = some (.int .u8 (tb.toNat : Int)) ∧ w1.cell? ⟨bq, off + j * 4 + 2, none⟩ = some (.int .u16 tn) :=
        ⟨by rw [World.cell?_of_block (a := ⟨bq, off + j * 4, none⟩) eb]; exact c0, by rw [World.cell?_of_block (a := ⟨bq, off + j * 4 + 1, none⟩) eb]; exact c1, by rw [World.cell?_of_block (a := ⟨bq, off + j * 4 + 2, none⟩) eb]; exact c2⟩
      have d0 := hS1.1
      obtain ⟨q, hq⟩ : ∃ q, (tn % 3000).toNat = q := ⟨_, rfl⟩
      have hq3 : q ≤ 2999 := by omega
      rw [hq] at hb ⊢
      obtain ⟨tx, htx⟩ : ∃ tx, fillM tb q = tx := ⟨_, rfl⟩
      have htl : tx.length = q := by rw [← htx, length_fillM]
      rw [htx] at hb
      have hcap : capLe (.slice (some ⟨g, 0, none⟩) q q) := fun a n c h => by cases h; omega
      have hla := hla.step hs1 (nn _) (nn _) (nn _)
      have hlb := hlb.step hs1 (nn _) (nn _)
      have hlc := hlc.step hs1 (nn _) (nn _) (nn _)
      have hst := hst.trans hs1.above0
      have hbH := hidden hb
      have hblH := Nat.lt_of_lt_of_le hbl hs1.size
      have hboH : (o1 bq).1 = 0 := by rw [hs1.own bq hbl]; exact hbo
      clear c0 c1 c2 hq htx hb hs1 eb hbl hbo hHeld
      go_wp2_with fail
      refine ⟨fun _ => hS1, ?_⟩
      refine wpAnyN_one (i := 12) rfl (by kernel_rfl) ?_
      go_wp2_with fail
      refine ⟨fun _ => hS1, ?_⟩
      clear hS1
      refine wpAnyN_done (by kernel_rfl) ?_ _
      go_wp2_with fail
      · obtain ⟨mb', d', e1, hc, hI2⟩ := hI.out.commitB (by omega) tx
        have hcm := commit_is hB0 hD0 hBD (⟨hlb, hla.2⟩ : LD w1 o1 B D pb pd (mb, d)) hrdH.out tx _ hbH.out hcap (by omega) hc
        have hI3 := hidden hI2
        clear hI2 hc
        refine hcm.mono ?_; rintro e w2 ⟨v2, o2, rfl, hs, rfl, hld⟩
        have eb := hs.block bq hblH (by rw [hboH]; exact nB0)
        have d1 : w2.cell? ⟨bq, off + j * 4, none⟩ = some (.bool rs) := by rw [World.cell?_of_block (a := ⟨bq, off + j * 4, none⟩) eb]; exact d0
        have hlA := hla.1.step hs nBA nB0
        have hlb := hld.1
        have hdd := hld.2
        have hlc := hlc.step hs nBC nBE nB0
        have hst := hst.trans (hs.above2 mB mD)
        clear eb hs hld hcm d0 hla
        cases rs with
        | false =>
          go_wp2_with fail
          go_roundw
          case rel => exact ⟨j + 1, o2, ma, mb', d', s, by omega, by go_num, ⟨hlA, hdd⟩, hlb, hlc, hst, hI3.out.mono (by omega)⟩
          case measure => simp [intOf]; omega
        | true =>
          obtain ⟨mb2, d2, hc, hI2⟩ := hI3.out.resetB (by omega)
          have hrd2 : d'.row.length ≤ 700000 := by have := hI3.out.ga.row; simp only at this; rw [this]; simp
          have hcm := reset_is hB0 hD0 hBD (⟨hlb, hdd⟩ : LD w2 o2 B D pb pd (mb', d')) hrd2 hc
          have hI4 := hidden hI2
          clear hI2 hc hrd2
          go_wp2_with fail
          refine hcm.mono ?_; rintro e w3 ⟨v3, o3, rfl, hs, rfl, hld⟩
          have hlA := hlA.step hs nBA nB0
          have hlc := hlc.step hs nBC nBE nB0
          have hst := hst.trans (hs.above2 mB mD)
          clear hs hcm
          go_wp2_with fail
          go_roundw
          case rel => exact ⟨j + 1, o3, ma, mb2, d2, s, by omega, by go_num, ⟨hlA, hld.2⟩, hld.1, hlc, hst, hI4.out.mono (by omega)⟩
          case measure => simp [intOf]; omega
      · obtain ⟨ma', d', s', hca, hcs, hI2⟩ := hI.out.resetA (by omega)
        refine (reset_is hA0 hD0 hAD hla hrdH.out hca).mono ?_; rintro e w2 ⟨v2, o2, rfl, hs, rfl, hla⟩
        have hlb := hlb.step hs nAB nA0
        have hlc := hlc.step hs nAC nAE nA0
        have hst := hst.trans (hs.above2 mA mD)
        have hcm := reset_is hC0 hE0 hEC hlc hrsH.out hcs
        clear hca hcs hs hlc
        go_wp2_with fail
        refine hcm.mono ?_; rintro e w3 ⟨v3, o3, rfl, hs, rfl, hlc⟩
        have hla := hla.step hs nCA nCD nC0
        have hlb := hlb.step hs nCB nC0
        have hst := hst.trans (hs.above2 mC mE)
        clear hs hcm
        have hI3 := hidden hI2
        have hrm := hidden (LogM.Two8.rooms hI2)
        clear hI2
        go_wp2_with fail
        refine (room_is hla.1 _ rfl).mono ?_; rintro e w4 ⟨v4, o4, rfl, hs, rfl⟩
        have hla := hla.step hs (nn _) (nn _) (nn _); have hlb := hlb.step hs (nn _) (nn _); have hlc := hlc.step hs (nn _) (nn _) (nn _); have hst := hst.trans hs.above0
        clear hs
        go_wp2_with fail
        refine (room_is hlc.1 _ hrm.out).mono ?_; rintro e w4' ⟨v4, o4', rfl, hs, rfl⟩
        have hla := hla.step hs (nn _) (nn _) (nn _); have hlb := hlb.step hs (nn _) (nn _); have hlc := hlc.step hs (nn _) (nn _) (nn _); have hst := hst.trans hs.above0
        clear hs
        go_wp2_with fail
        refine (batches_texts hla.1).mono ?_; rintro e w4 ⟨v4, o4, rfl, hs, hcl⟩
        have hla := hla.step hs (nn _) (nn _) (nn _); have hlb := hlb.step hs (nn _) (nn _); have hlc := hlc.step hs (nn _) (nn _) (nn _); have hst := hst.trans hs.above0
        clear hs
        go_wp2_with fail
        refine hcl.mono ?_; rintro e w5 ⟨v5, o5, rfl, hs, hs1⟩
        have hla := hla.step hs (nn _) (nn _) (nn _); have hlb := hlb.step hs (nn _) (nn _); have hlc := hlc.step hs (nn _) (nn _) (nn _); have hst := hst.trans hs.above0
        clear hs hcl
        go_wp2_with fail
        refine (batches_texts hlc.1).mono ?_; rintro e w6 ⟨v6, o6, rfl, hs, hcl⟩
        have hla := hla.step hs (nn _) (nn _) (nn _); have hlb := hlb.step hs (nn _) (nn _); have hlc := hlc.step hs (nn _) (nn _) (nn _); have hst := hst.trans hs.above0; have hs1 := hs1.step hs (nn _)
        clear hs
        go_wp2_with fail
        refine hcl.mono ?_; rintro e w7 ⟨v7, o7, rfl, hs, hs2⟩
        have hla := hla.step hs (nn _) (nn _) (nn _); have hlb := hlb.step hs (nn _) (nn _); have hlc := hlc.step hs (nn _) (nn _) (nn _); have hst := hst.trans hs.above0; have hs1 := hs1.step hs (nn _)
        clear hs hcl
        obtain ⟨_, _, hw3, _, hw5, hw6, _⟩ := (hla.1).wf
        rw [hI3.out.re.1] at hs2
        have heq := equal_is hs1 hs2 (by (try dsimp only at hw3 hw5 hw6); (try dsimp only); omega) true (by simp)
        clear hs1 hs2 hw3 hw5 hw6
        go_wp2_with fail
        refine heq.mono ?_; rintro e w8 ⟨v8, o8, rfl, hs, rfl⟩
        have hla := hla.step hs (nn _) (nn _) (nn _); have hlb := hlb.step hs (nn _) (nn _); have hlc := hlc.step hs (nn _) (nn _) (nn _); have hst := hst.trans hs.above0
        clear hs heq
        go_wp2_with fail
        go_roundw
        case rel => exact ⟨j + 1, o8, ma', mb, d', s', by omega, by go_num, hla, hlb, hlc, hst, hI3.out.mono (by omega)⟩
        case measure => simp [intOf]; omega
      · obtain ⟨ma', d', s', e1, hca, hcs, hI2⟩ := hI.out.commitA (by omega) tx
        refine (commit_is hA0 hD0 hAD hla hrdH.out tx _ hbH.out hcap (by omega) hca).mono ?_; rintro e w2 ⟨v2, o2, rfl, hs, rfl, hla⟩
        have hlb := hlb.step hs nAB nA0
        have hlc := hlc.step hs nAC nAE nA0
        have hst := hst.trans (hs.above2 mA mD)
        have hb2 := hbH.out.step hs nA0
        have hcm := commit_is hC0 hE0 hEC hlc hrsH.out tx _ hb2 hcap (by omega) hcs
        clear hca hcs hs hlc hb2
        go_wp2_with fail
        refine hcm.mono ?_; rintro e w3 ⟨v3, o3, rfl, hs, rfl, hlc⟩
        have hla := hla.step hs nCA nCD nC0
        have hlb := hlb.step hs nCB nC0
        have hst := hst.trans (hs.above2 mC mE)
        clear hs hcm
        have hI3 := hidden hI2
        have hrm := hidden (LogM.Two8.rooms hI2)
        clear hI2
        go_wp2_with fail
        refine (room_is hla.1 _ rfl).mono ?_; rintro e w4 ⟨v4, o4, rfl, hs, rfl⟩
        have hla := hla.step hs (nn _) (nn _) (nn _); have hlb := hlb.step hs (nn _) (nn _); have hlc := hlc.step hs (nn _) (nn _) (nn _); have hst := hst.trans hs.above0
        clear hs
        go_wp2_with fail
        refine (room_is hlc.1 _ hrm.out).mono ?_; rintro e w4' ⟨v4, o4', rfl, hs, rfl⟩
        have hla := hla.step hs (nn _) (nn _) (nn _); have hlb := hlb.step hs (nn _) (nn _); have hlc := hlc.step hs (nn _) (nn _) (nn _); have hst := hst.trans hs.above0
        clear hs
        go_wp2_with fail
        refine (batches_texts hla.1).mono ?_; rintro e w4 ⟨v4, o4, rfl, hs, hcl⟩
        have hla := hla.step hs (nn _) (nn _) (nn _); have hlb := hlb.step hs (nn _) (nn _); have hlc := hlc.step hs (nn _) (nn _) (nn _); have hst := hst.trans hs.above0
        clear hs
        go_wp2_with fail
        refine hcl.mono ?_; rintro e w5 ⟨v5, o5, rfl, hs, hs1⟩
        have hla := hla.step hs (nn _) (nn _) (nn _); have hlb := hlb.step hs (nn _) (nn _); have hlc := hlc.step hs (nn _) (nn _) (nn _); have hst := hst.trans hs.above0
        clear hs hcl
        go_wp2_with fail
        refine (batches_texts hlc.1).mono ?_; rintro e w6 ⟨v6, o6, rfl, hs, hcl⟩
        have hla := hla.step hs (nn _) (nn _) (nn _); have hlb := hlb.step hs (nn _) (nn _); have hlc := hlc.step hs (nn _) (nn _) (nn _); have hst := hst.trans hs.above0; have hs1 := hs1.step hs (nn _)
        clear hs
        go_wp2_with fail
        refine hcl.mono ?_; rintro e w7 ⟨v7, o7, rfl, hs, hs2⟩
        have hla := hla.step hs (nn _) (nn _) (nn _); have hlb := hlb.step hs (nn _) (nn _); have hlc := hlc.step hs (nn _) (nn _) (nn _); have hst := hst.trans hs.above0; have hs1 := hs1.step hs (nn _)
        clear hs hcl
        obtain ⟨_, _, hw3, _, hw5, hw6, _⟩ := (hla.1).wf
        rw [hI3.out.re.1] at hs2
        have heq := equal_is hs1 hs2 (by (try dsimp only at hw3 hw5 hw6); (try dsimp only); omega) true (by simp)
        clear hs1 hs2 hw3 hw5 hw6
        go_wp2_with fail
        refine heq.mono ?_; rintro e w8 ⟨v8, o8, rfl, hs, rfl⟩
        have hla := hla.step hs (nn _) (nn _) (nn _); have hlb := hlb.step hs (nn _) (nn _); have hlc := hlc.step hs (nn _) (nn _) (nn _); have hst := hst.trans hs.above0
        clear hs heq
        go_wp2_with fail
        go_roundw
        case rel => exact ⟨j + 1, o8, ma', mb, d', s', by omega, by go_num, hla, hlb, hlc, hst, hI3.out.mono (by omega)⟩
        case measure => simp [intOf]; omega
    · have hjl : j = ll := by omega
      subst hjl
      have hag := LogM.Two8.again hI.out (by omega)
      have hrow : d.row.length ≤ 1000000 := by have := hrdH.out; omega
      have hx := open_yes hB0 hD0 hBD hla.2 hrow hI.out.ga.dd 0 8 (by omega) (by omega) (by have := hI.out.ga.fine.2.1; simp only [hI.out.fa.1, hI.out.fa.2] at this; exact this)
      have hxH := hidden hx
      have hagH := hidden hag
      clear hx hag hrow
      go_wp2_with fail
      refine hxH.out.mono ?_; rintro e w2 ⟨v2, o2, rfl, hs, hop⟩
      obtain ⟨p2, -, rfl, hlz⟩ := hop.2 hagH.out.1
      rw [hagH.out.2] at hlz
      have hst := hst.trans (hs.above1 mB)
      have hlc := hlc.step hs oBC oBE oB0
      clear hs hop hxH
      go_wp2_with fail
      refine (batches_texts hlz).mono ?_; rintro e w4 ⟨v4, o4, rfl, hs, hcl⟩
      have hlz := hlz.step hs (nn _) (nn _); have hlc := hlc.step hs (nn _) (nn _) (nn _); have hst := hst.trans hs.above0
      clear hs
      go_wp2_with fail
      refine hcl.mono ?_; rintro e w5 ⟨v5, o5, rfl, hs, hs1⟩
      have hlz := hlz.step hs (nn _) (nn _); have hlc := hlc.step hs (nn _) (nn _) (nn _); have hst := hst.trans hs.above0
      clear hs hcl
      go_wp2_with fail
      refine (batches_texts hlc.1).mono ?_; rintro e w6 ⟨v6, o6, rfl, hs, hcl⟩
      have hlz := hlz.step hs (nn _) (nn _); have hlc := hlc.step hs (nn _) (nn _) (nn _); have hst := hst.trans hs.above0; have hs1 := hs1.step hs (nn _)
      clear hs
      go_wp2_with fail
      refine hcl.mono ?_; rintro e w7 ⟨v7, o7, rfl, hs, hs2⟩
      have hlz := hlz.step hs (nn _) (nn _); have hlc := hlc.step hs (nn _) (nn _) (nn _); have hst := hst.trans hs.above0; have hs1 := hs1.step hs (nn _)
      clear hs hcl
      obtain ⟨_, _, hw3, _, hw5, hw6, _⟩ := (hlz).wf
      rw [hI.out.re.1] at hs2
      have heq := equal_is hs1 hs2 (by (try dsimp only at hw3 hw5 hw6); (try dsimp only); omega) true (by simp)
      clear hs1 hs2 hw3 hw5 hw6
      go_wp2_with fail
      refine heq.mono ?_; rintro e w8 ⟨v8, o8, rfl, hs, rfl⟩
      have hlz := hlz.step hs (nn _) (nn _); have hlc := hlc.step hs (nn _) (nn _) (nn _); have hst := hst.trans hs.above0
      clear hs heq
      have hwk := wakes8_any w8 o8
      go_wp2_with fail
      refine hwk.mono ?_; rintro e w9 ⟨v9, o9, rfl, hs, rfl⟩
      have hst := (hst.trans hs.above0).noneAbove hM
      clear hwk hs
      go_wp2_with fail
      go_ret
      exact ⟨_, o9, rfl, hst, rfl⟩
end Go.Proofs.YtfgggkheadfiaaaR
