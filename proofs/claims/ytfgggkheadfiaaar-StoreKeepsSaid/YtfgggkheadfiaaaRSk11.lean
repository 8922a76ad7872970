/- Plain laws: what a store's acts come to, whether the power stays or goes in their midst; a store that is opened again. No program in sight. -/
import Derived.Test.YtfgggkheadfiaaaRRows
import Derived.Test.YtfgggkheadfiaaaRSk1
import Derived.Test.YtfgggkheadfiaaaRSk2
import Derived.Test.YtfgggkheadfiaaaRSk6
import Derived.Test.YtfgggkheadfiaaaRSk7
import Derived.Test.YtfgggkheadfiaaaRSk10
namespace Go.Proofs.YtfgggkheadfiaaaR
open Go Go.RowKit

/-- A store whose power is on: both areas are what their pages tell; the younger one tells what is kept. -/
structure SG (K H : Nat) (s : StoreM) : Prop where
  live : s.dead = false
  gc : LogM.Good K (s.cur, s.d)
  go : LogM.Good K (s.oth, s.d)
  pg : s.pages = H
  h4 : 4 ≤ H
  h200 : H ≤ 200
  len : s.d.pages.length / 2 = H
  nc : s.cur.n = H
  no : s.oth.n = H
  fst : (s.cur.first = 0 ∧ s.oth.first = H) ∨ (s.cur.first = H ∧ s.oth.first = 0 ∧ 0 < s.age.toNat)
  rc : replayM s.cur.records = some (s.age, s.kept)
  ro : ∃ g k, replayM s.oth.records = some (g, k) ∧ (g.toNat < s.age.toNat ∨ g = 0)
  ageK : s.age.toNat ≤ K
namespace SG
variable {K H : Nat} {s : StoreM}
theorem dd (h : SG K H s) : s.d.dead = false := h.gc.dd
theorem row (h : SG K H s) : s.d.row = [] := h.gc.row
theorem apart (h : SG K H s) : s.cur.first + s.cur.n ≤ s.oth.first ∨ s.oth.first + s.oth.n ≤ s.cur.first := by
  have h1 := h.nc; have h2 := h.no
  rcases h.fst with ⟨h3, h4⟩ | ⟨h3, h4, -⟩ <;> omega
theorem mono {K' : Nat} (h : SG K H s) (hK : K ≤ K') : SG K' H s :=
  ⟨h.live, h.gc.mono hK, h.go.mono hK, h.pg, h.h4, h.h200, h.len, h.nc, h.no, h.fst, h.rc, h.ro, Nat.le_trans h.ageK hK⟩
theorem fuse (h : SG K H s) (n : Int) (hn : n ≤ 9223372036854775807) : SG K H { s with d := s.d.fuse n } :=
  ⟨h.live, LogM.Good.fuse h.gc n hn, LogM.Good.fuse h.go n hn, h.pg, h.h4, h.h200, by show (s.d.fuse n).pages.length / 2 = H; rw [DiskM.fuse_pages]; exact h.len, h.nc, h.no, h.fst, h.rc, h.ro, h.ageK⟩
end SG
theorem Good.wf' {K : Nat} {s : LogM × DiskM} (h : LogM.Good K s) : s.2.wf := h.fine.2.2.2
theorem room_many {n e : Nat} {l : LogM} {b : List UInt8} (hn : l.n = n) (he : l.end' = e) (h1 : 1 ≤ b.length) (hr : b.length ≤ l.room) : LogM.many b ≤ n - e := by
  unfold LogM.room at hr
  unfold LogM.many
  rw [hn, he] at hr
  omega
theorem many_le {b : List UInt8} {m : Nat} (h1 : 1 ≤ m) (hr : b.length ≤ 480 * m) : LogM.many b ≤ m := by
  unfold LogM.many; omega
set_option maxHeartbeats 1600000 in
/-- What a write may come to. -/
theorem StoreM.write_cases {K H : Nat} {s : StoreM} (h : SG K H s) (hK : K + 600 < 65536) (rec : List UInt8) (now : KeptM) (hr : recOne s.kept rec = some now) (h1 : 1 ≤ rec.length) (hs : Short now.lines) (hn : now.lines.length ≤ 256) :
    (∃ s', s.write rec now = (s', 0) ∧ SG (K + 3) H s' ∧ s'.kept = now ∧ s'.d.pages.length = s.d.pages.length ∧ (s.d.left < 0 → s'.d.left < 0)) ∨
    (s.write rec now = (s, 4) ∧ 480 * (H - 1) < (allE (s.age + 1#64) now.promised now.current now.lines).length) ∨
    (0 ≤ s.d.left ∧ ∃ s', s.write rec now = (s', 9) ∧ s'.dead = true ∧ s'.d.dead = true ∧ s'.kept = s.kept ∧ s'.pages = H ∧ s'.d.row.length ≤ 4096 ∧
      ∀ fates, ∃ t, SG (K + 600) H t ∧ t.d = s'.d.restart fates ∧ t.d.left = -1 ∧ t.d.pages.length = s.d.pages.length ∧ (t.kept = s.kept ∨ t.kept = now)) := by
  have hap := h.apart
  have hnc := h.nc
  have hno := h.no
  have hH := h.h4
  have hfst := h.fst
  have hage : (s.age + 1#64).toNat = s.age.toNat + 1 := by
    have := h.ageK
    rw [BitVec.toNat_add]; simp; omega
  have hall := recFirst_all (s.age + 1#64) now.promised now.current now.lines (by omega) hs hn
  obtain ⟨AE, hAE⟩ : ∃ AE, allE (s.age + 1#64) now.promised now.current now.lines = AE := ⟨_, rfl⟩
  rw [hAE] at hall
  obtain ⟨g, k, hro, hg⟩ := h.ro
  unfold StoreM.write
  rw [hAE]
  by_cases hc : 0 < s.age.toNat ∧ rec.length ≤ s.cur.room
  · rw [if_pos hc]
    have hm := room_many rfl rfl h1 hc.2
    rcases LogM.commit_cases h.gc (by omega) rec with ⟨hx, -⟩ | ⟨-, s', hw, hG, hrec, -, hn', hf', hO, hl⟩ | ⟨hl, s', hw, -, hd2, hrow, hn', hf', hB⟩
    · simp only at hx; omega
    · left
      simp only [hw, ne_eq, not_true_eq_false, if_false]
      simp only at hrec hn' hf' hO hl
      refine ⟨_, rfl, ⟨h.live, hG.mono (by omega), (LogM.Good.oth h.go hO hG.dd hG.row (Good.wf' hG) (by dsimp only; omega)).mono (by omega), h.pg, h.h4, h.h200, ?_, hn'.trans hnc, hno, ?_, ?_, ⟨g, k, hro, hg⟩, by have := h.ageK; dsimp only; omega⟩, rfl, hO.1, fun h => by dsimp only; rw [hl h]; exact h⟩
      · show s'.2.pages.length / 2 = H
        rw [hO.1]; exact h.len
      · show (s'.1.first = 0 ∧ s.oth.first = H) ∨ (s'.1.first = H ∧ s.oth.first = 0 ∧ 0 < s.age.toNat)
        rw [hf']; exact hfst
      · show replayM s'.1.records = some (s.age, now)
        rw [hrec]
        exact replay_snoc h.rc hc.1 hr
    · right; right
      refine ⟨hl, { s with cur := s'.1, d := s'.2, dead := true }, by simp only [hw, ne_eq, show ¬ ((9 : Int) = 0) by omega, not_false_eq_true, if_true], rfl, hd2, rfl, h.pg, hrow, fun fates => ?_⟩
      have B := hB fates
      simp only at B
      have hmk : ∀ kp, replayM (LogM.ofPages s.cur.first (LogM.seenPages (s'.2.restart fates) s.cur.first s.cur.n)).records = some (s.age, kp) →
          SG (K + 600) H ⟨LogM.ofPages s.cur.first (LogM.seenPages (s'.2.restart fates) s.cur.first s.cur.n), s.oth, s'.2.restart fates, H, s.age, kp, false⟩ := fun kp hkp =>
        ⟨rfl, B.good.mono (by omega), (LogM.Good.oth h.go B.oth B.good.dd B.good.row (Good.wf' B.good) (by dsimp only; omega)).mono (by omega), rfl, h.h4, h.h200,
          by show (s'.2.restart fates).pages.length / 2 = H; rw [B.oth.1]; exact h.len, (LogM.seen_n _ _ _).trans hnc, hno, hfst, hkp, ⟨g, k, hro, hg⟩, by have := h.ageK; dsimp only; omega⟩
      rcases B.recs with hx | hx
      · exact ⟨_, hmk s.kept (by rw [hx]; exact h.rc), rfl, B.left, B.oth.1, .inl rfl⟩
      · exact ⟨_, hmk now (by rw [hx]; exact replay_snoc h.rc hc.1 hr), rfl, B.left, B.oth.1, .inr rfl⟩
  · rw [if_neg hc]
    by_cases hf : 480 * (s.pages - 1) < AE.length
    · rw [if_pos hf]
      exact .inr (.inl ⟨rfl, by rw [← h.pg]; exact hf⟩)
    · rw [if_neg hf]
      rw [h.pg] at hf
      have hlF : s.oth.first = 0 ∨ 0 < s.age.toNat ∨ (s.cur.first = 0 ∧ s.oth.first = H) := by
        rcases hfst with h | h
        · exact .inr (.inr h)
        · exact .inl h.2.1
      rcases LogM.reset_cases h.go (by omega) with ⟨s1, hw1, hG1, hrec1, hend1, hn1, hf1, hO1, hl1⟩ | ⟨hl, s', hw, -, hd2, hrow, hn', hf', hB⟩
      · simp only at hn1 hf1 hO1 hl1
        have hmm : LogM.many AE ≤ H - 1 := many_le (by omega) (by omega)
        rcases LogM.commit_cases hG1 (by omega) AE with ⟨hx, -⟩ | ⟨-, s', hw, hG, hrec, -, hn', hf', hO, hl⟩ | ⟨hl, s', hw, -, hd2, hrow, hn', hf', hB⟩
        · rw [hn1, hend1, hno] at hx; omega
        · left
          rw [hn1, hf1] at hO
          have hO2 := hO1.trans hO
          refine ⟨{ s with cur := s'.1, oth := s.cur, d := s'.2, age := s.age + 1#64, kept := now }, ?_, ⟨h.live, hG.mono (by omega), (LogM.Good.oth h.gc hO2 hG.dd hG.row (Good.wf' hG) (by dsimp only; omega)).mono (by omega), h.pg, h.h4, h.h200, ?_, (hn'.trans hn1).trans hno, hnc, ?_, ?_, ⟨s.age, s.kept, h.rc, .inl (by dsimp only; omega)⟩, by have := h.ageK; dsimp only; omega⟩, rfl, hO2.1, fun h => ?_⟩
          · simp only [hw1, hw, ne_eq, not_true_eq_false, if_false]
          · show s'.2.pages.length / 2 = H
            rw [hO2.1]; exact h.len
          · show (s'.1.first = 0 ∧ s.cur.first = H) ∨ (s'.1.first = H ∧ s.cur.first = 0 ∧ 0 < (s.age + 1#64).toNat)
            rw [hf', hf1]
            rcases hfst with h | h
            · exact .inr ⟨h.2, h.1, by omega⟩
            · exact .inl ⟨h.2.1, h.1⟩
          · show replayM s'.1.records = some (s.age + 1#64, now)
            rw [hrec, hrec1]
            exact replay_one hall
          · have e1 := hl1 h
            have e2 := hl (by rw [e1]; exact h)
            show s'.2.left < 0
            rw [e2, e1]; exact h
        · right; right
          have hl0 : 0 ≤ s.d.left := by
            by_cases hz : s.d.left < 0
            · rw [hl1 hz] at hl; omega
            · omega
          refine ⟨hl0, { s with oth := s'.1, d := s'.2, dead := true }, by simp only [hw1, hw, ne_eq, not_true_eq_false, if_false, show ¬ ((9 : Int) = 0) by omega, not_false_eq_true, if_true], rfl, hd2, rfl, h.pg, hrow, fun fates => ?_⟩
          have B := hB fates
          rw [hn1, hf1, hrec1] at B
          have hO2 := hO1.trans B.oth
          have hcO : LogM.Good (K + 600) (s.cur, s'.2.restart fates) := (LogM.Good.oth h.gc hO2 B.good.dd B.good.row (Good.wf' B.good) (by dsimp only; omega)).mono (by omega)
          have hlen : (s'.2.restart fates).pages.length / 2 = H := by rw [hO2.1]; exact h.len
          rcases B.recs with hx | hx
          · refine ⟨⟨s.cur, LogM.ofPages s.oth.first (LogM.seenPages (s'.2.restart fates) s.oth.first s.oth.n), s'.2.restart fates, H, s.age, s.kept, false⟩, ⟨rfl, hcO, B.good.mono (by omega), rfl, h.h4, h.h200, hlen, hnc, (LogM.seen_n _ _ _).trans hno, hfst, h.rc, ⟨0, ⟨0, 0, []⟩, by dsimp only; rw [hx]; rfl, .inr rfl⟩, by have := h.ageK; dsimp only; omega⟩, rfl, B.left, hO2.1, .inl rfl⟩
          · refine ⟨⟨LogM.ofPages s.oth.first (LogM.seenPages (s'.2.restart fates) s.oth.first s.oth.n), s.cur, s'.2.restart fates, H, s.age + 1#64, now, false⟩, ⟨rfl, B.good.mono (by omega), hcO, rfl, h.h4, h.h200, hlen, (LogM.seen_n _ _ _).trans hno, hnc, ?_, by dsimp only; rw [hx]; exact replay_one hall, ⟨s.age, s.kept, h.rc, .inl (by dsimp only; omega)⟩, by have := h.ageK; dsimp only; omega⟩, rfl, B.left, hO2.1, .inr rfl⟩
            show (s.oth.first = 0 ∧ s.cur.first = H) ∨ (s.oth.first = H ∧ s.cur.first = 0 ∧ 0 < (s.age + 1#64).toNat)
            rcases hfst with h | h
            · exact .inr ⟨h.2, h.1, by omega⟩
            · exact .inl ⟨h.2.1, h.1⟩
      · right; right
        refine ⟨hl, { s with oth := s'.1, d := s'.2, dead := true }, by simp only [hw, ne_eq, show ¬ ((9 : Int) = 0) by omega, not_false_eq_true, if_true], rfl, hd2, rfl, h.pg, hrow, fun fates => ?_⟩
        have B := hB fates
        simp only at B
        refine ⟨⟨s.cur, LogM.ofPages s.oth.first (LogM.seenPages (s'.2.restart fates) s.oth.first s.oth.n), s'.2.restart fates, H, s.age, s.kept, false⟩, ⟨rfl, (LogM.Good.oth h.gc B.oth B.good.dd B.good.row (Good.wf' B.good) (by dsimp only; omega)).mono (by omega), B.good.mono (by omega), rfl, h.h4, h.h200, by show (s'.2.restart fates).pages.length / 2 = H; rw [B.oth.1]; exact h.len, hnc, (LogM.seen_n _ _ _).trans hno, hfst, h.rc, ?_, by have := h.ageK; dsimp only; omega⟩, rfl, B.left, B.oth.1, .inl rfl⟩
        rcases B.recs with hx | hx
        · exact ⟨g, k, by dsimp only; rw [hx]; exact hro, hg⟩
        · exact ⟨0, ⟨0, 0, []⟩, by dsimp only; rw [hx]; rfl, .inr rfl⟩

/-! ### Open -/
/-- Opened again, a store is the same. -/
theorem SG.reopen {K H : Nat} {s : StoreM} (h : SG K H s) : ∃ g0 g1 k0 k1, replayM (LogM.ofPages 0 (LogM.seenPages s.d 0 H)).records = some (g0, k0) ∧ replayM (LogM.ofPages H (LogM.seenPages s.d H H)).records = some (g1, k1) ∧
    openS s.d H (LogM.ofPages 0 (LogM.seenPages s.d 0 H)) (LogM.ofPages H (LogM.seenPages s.d H H)) g0 g1 k0 k1 = s := by
  have hc : s.cur = LogM.ofPages s.cur.first (LogM.seenPages s.d s.cur.first s.cur.n) := h.gc.fine.1
  have ho : s.oth = LogM.ofPages s.oth.first (LogM.seenPages s.d s.oth.first s.oth.n) := h.go.fine.1
  rw [h.nc] at hc
  rw [h.no] at ho
  obtain ⟨g, k, hro, hg⟩ := h.ro
  have hpg := h.pg
  have hlv := h.live
  have hrc := h.rc
  rcases h.fst with ⟨h1, h2⟩ | ⟨h1, h2, h3⟩
  · rw [h1] at hc
    rw [h2] at ho
    rw [← hc, ← ho]
    refine ⟨s.age, g, s.kept, k, hrc, hro, ?_⟩
    unfold openS
    rw [if_neg (by
      rcases hg with hg | rfl
      · omega
      · simp)]
    obtain ⟨a, b, d, p, e, f, z⟩ := s
    simp only at hpg hlv ⊢
    subst hpg hlv
    rfl
  · rw [h1] at hc
    rw [h2] at ho
    rw [← hc, ← ho]
    refine ⟨g, s.age, k, s.kept, hro, hrc, ?_⟩
    unfold openS
    rw [if_pos (by
      rcases hg with hg | rfl
      · omega
      · simpa using h3)]
    obtain ⟨a, b, d, p, e, f, z⟩ := s
    simp only at hpg hlv ⊢
    subst hpg hlv
    rfl
theorem SG.newest {K H : Nat} {s : StoreM} (h : SG K H s) (hK : K < 65536) : LogM.newest (LogM.seenPages s.d 0 H) ≠ BitVec.allOnes 64 ∧ LogM.newest (LogM.seenPages s.d H H) ≠ BitVec.allOnes 64 := by
  have hc := h.gc.newest
  have ho := h.go.newest
  have kc := h.gc.stamp_le
  have ko := h.go.stamp_le
  simp only at hc ho kc ko
  rw [h.nc] at hc
  rw [h.no] at ho
  have key : ∀ x : BitVec 64, x.toNat ≤ K → x ≠ BitVec.allOnes 64 := fun x hx e => by
    rw [e] at hx; simp at hx; omega
  rcases h.fst with ⟨h1, h2⟩ | ⟨h1, h2, -⟩
  · rw [h1] at hc; rw [h2] at ho
    exact ⟨by rw [hc]; exact key _ kc, by rw [ho]; exact key _ ko⟩
  · rw [h1] at hc; rw [h2] at ho
    exact ⟨by rw [ho]; exact key _ ko, by rw [hc]; exact key _ kc⟩
/-- A new disk's store. -/
def newS (n : Nat) : StoreM := ⟨LogM.raw 0 (n / 2) 0, LogM.raw (n / 2) (n / 2) 0, DiskM.new n, n / 2, 0, ⟨0, 0, []⟩, false⟩
theorem newS_sg {n : Nat} (h8 : 8 ≤ n) (h400 : n ≤ 401) : SG 0 (n / 2) (newS n) :=
  ⟨rfl, LogM.good_new (by omega) (by omega) (by omega), LogM.good_new (by omega) (by omega) (by omega), rfl, by omega, by omega, by simp [newS, DiskM.new], rfl, rfl, .inl ⟨rfl, rfl⟩, rfl, ⟨0, ⟨0, 0, []⟩, rfl, .inr rfl⟩, by simp [newS]⟩

/-! ### The acts -/
def bytesL (ls : List LineM) : Nat := (ls.map fun x => x.b.length).sum
theorem length_encs (ls : List LineM) : (encs ls).length = 12 * ls.length + bytesL ls := by
  induction ls with
  | nil => rfl
  | cons x r ih =>
    have e : encs (x :: r) = x.enc ++ encs r := by simp [encs]
    rw [e, List.length_append, ih, length_enc]
    simp only [bytesL, List.map_cons, List.sum_cons, List.length_cons]
    omega
/-- What is kept is as lines may be. -/
structure KOk (k : KeptM) : Prop where
  n : k.lines.length ≤ 256
  b : ∀ x ∈ k.lines, x.b.length ≤ 4096
theorem bytesL_le {ls : List LineM} (h : ∀ x ∈ ls, x.b.length ≤ 4096) : bytesL ls ≤ 4096 * ls.length := by
  induction ls with
  | nil => simp [bytesL]
  | cons x r ih =>
    have h1 := h x (by simp)
    have h2 := ih (fun y hy => h y (List.mem_cons_of_mem _ hy))
    simp only [bytesL, List.map_cons, List.sum_cons, List.length_cons] at *
    omega
theorem KOk.short {k : KeptM} (h : KOk k) : Short k.lines := fun x hx => by have := h.b x hx; omega
theorem KOk.zero : KOk ⟨0, 0, []⟩ := ⟨by simp, by simp⟩
theorem small_of {ls : List LineM} (hn : ls.length ≤ 256) (hb : ∀ x ∈ ls, x.b.length ≤ 4096) : small ls := by
  have := bytesL_le hb
  exact ⟨by omega, by rw [length_encs]; omega⟩
theorem KOk.small {k : KeptM} (h : KOk k) : small k.lines := small_of h.n h.b
structure ActM where
  k : Nat
  e : BitVec 64
  ls : List LineM
def StoreM.act (a : ActM) (s : StoreM) : StoreM × Int :=
  if a.k % 5 = 0 then s.promise a.e else if a.k % 5 = 1 then s.adopt a.e a.ls else if a.k % 5 = 4 then (s, 0) else s.append a.ls
def KeptM.promiseD (k : KeptM) (e : BitVec 64) : KeptM × Int := if k.promiseOk e then ({ k with promised := e }, 0) else (k, 1)
def KeptM.adoptD (k : KeptM) (e : BitVec 64) (ls : List LineM) : KeptM × Int := if k.adoptOk e ls then (⟨e, e, ls⟩, 0) else (k, 1)
def KeptM.appendD (k : KeptM) (ls : List LineM) : KeptM × Int := if k.appendOk ls then ({ k with lines := k.lines ++ ls }, 0) else (k, 1)
def KeptM.next (a : ActM) (k : KeptM) : KeptM × Int :=
  if a.k % 5 = 0 then k.promiseD a.e else if a.k % 5 = 1 then k.adoptD a.e a.ls else if a.k % 5 = 4 then (k, 0) else k.appendD a.ls
def fitsN (ls : List LineM) : Nat := 64 + (16 * ls.length + bytesL ls)
def KeptM.fits (k : KeptM) (n : Nat) : Bool := decide (fitsN k.lines ≤ 480 * (n / 2 - 1))
theorem badL_len {top : BitVec 64} {ls : List LineM} (h : ls.any (badL top) = false) : ∀ x ∈ ls, x.b.length ≤ 4096 := by
  intro x hx
  have := List.any_eq_false.1 h x hx
  unfold badL at this
  simp only [Bool.or_eq_true, decide_eq_true_eq, not_or] at this
  omega
theorem adoptOk_small {k : KeptM} {e : BitVec 64} {ls : List LineM} (h : k.adoptOk e ls = true) : ls.length ≤ 256 ∧ ∀ x ∈ ls, x.b.length ≤ 4096 := by
  unfold KeptM.adoptOk at h
  simp only [Bool.and_eq_true, decide_eq_true_eq, Bool.not_eq_true'] at h
  exact ⟨h.1.2, badL_len h.2⟩
theorem appendOk_small {k : KeptM} {ls : List LineM} (h : k.appendOk ls = true) : ls.length + k.lines.length ≤ 256 ∧ ∀ x ∈ ls, x.b.length ≤ 4096 := by
  unfold KeptM.appendOk at h
  simp only [Bool.and_eq_true, decide_eq_true_eq, Bool.not_eq_true'] at h
  exact ⟨h.1.1.2, badL_len h.1.2⟩
theorem KOk.next {k : KeptM} (h : KOk k) (a : ActM) : KOk (k.next a).1 := by
  unfold KeptM.next KeptM.promiseD KeptM.adoptD KeptM.appendD
  split
  · split
    · exact ⟨h.n, h.b⟩
    · exact h
  · split
    · split
      · rename_i hok
        have := adoptOk_small hok
        exact ⟨this.1, this.2⟩
      · exact h
    · split
      · exact h
      · split
        · rename_i hok
          have := appendOk_small hok
          refine ⟨?_, fun x hx => ?_⟩
          · show (k.lines ++ a.ls).length ≤ 256
            rw [List.length_append]; omega
          · change x ∈ k.lines ++ a.ls at hx
            rcases List.mem_append.1 hx with hx | hx
            · exact h.b x hx
            · exact this.2 x hx
        · exact h
theorem length_allE (age p c : BitVec 64) (ls : List LineM) : (allE age p c ls).length = 33 + (12 * ls.length + bytesL ls) := by
  unfold allE encL
  simp only [List.length_cons, List.length_append, length_be, length_encs]
  omega
theorem allE_fits {age p c : BitVec 64} {ls : List LineM} {H n : Nat} (hH : n / 2 = H) (h : 480 * (H - 1) < (allE age p c ls).length) {k : KeptM} (hk : k.lines = ls) : k.fits n = false := by
  rw [length_allE] at h
  unfold KeptM.fits fitsN
  rw [hk, hH]
  apply decide_eq_false
  omega
set_option maxHeartbeats 1600000 in
/-- What an act may come to. -/
theorem StoreM.act_cases {K H : Nat} {s : StoreM} (h : SG K H s) (hK : K + 600 < 65536) (hk : KOk s.kept) (a : ActM) :
    ((s.kept.next a).2 = 1 ∧ (s.kept.next a).1 = s.kept ∧ s.act a = (s, 1)) ∨
    ((s.kept.next a).2 = 0 ∧ ∃ s', s.act a = (s', 0) ∧ SG (K + 3) H s' ∧ s'.kept = (s.kept.next a).1 ∧ s'.d.pages.length = s.d.pages.length ∧ (s.d.left < 0 → s'.d.left < 0)) ∨
    ((s.kept.next a).2 = 0 ∧ s.act a = (s, 4) ∧ ∀ n, n / 2 = H → (s.kept.next a).1.fits n = false) ∨
    ((s.kept.next a).2 = 0 ∧ a.k % 5 ≠ 4 ∧ 0 ≤ s.d.left ∧ ∃ s', s.act a = (s', 9) ∧ s'.dead = true ∧ s'.d.dead = true ∧ s'.kept = s.kept ∧ s'.pages = H ∧ s'.d.row.length ≤ 4096 ∧
      ∀ fates, ∃ t, SG (K + 600) H t ∧ t.d = s'.d.restart fates ∧ t.d.left = -1 ∧ t.d.pages.length = s.d.pages.length ∧ (t.kept = s.kept ∨ t.kept = (s.kept.next a).1)) := by
  have hok := hk.next a
  have hlv := h.live
  have hdd := h.dd
  have main : ∀ rec now, recOne s.kept rec = some now → 1 ≤ rec.length → a.k % 5 ≠ 4 → Short now.lines → now.lines.length ≤ 256 →
    ((now, (0 : Int)).2 = 1 ∧ (now, (0 : Int)).1 = s.kept ∧ s.write rec now = (s, 1)) ∨
    ((now, (0 : Int)).2 = 0 ∧ ∃ s', s.write rec now = (s', 0) ∧ SG (K + 3) H s' ∧ s'.kept = (now, (0 : Int)).1 ∧ s'.d.pages.length = s.d.pages.length ∧ (s.d.left < 0 → s'.d.left < 0)) ∨
    ((now, (0 : Int)).2 = 0 ∧ s.write rec now = (s, 4) ∧ ∀ n, n / 2 = H → (now, (0 : Int)).1.fits n = false) ∨
    ((now, (0 : Int)).2 = 0 ∧ a.k % 5 ≠ 4 ∧ 0 ≤ s.d.left ∧ ∃ s', s.write rec now = (s', 9) ∧ s'.dead = true ∧ s'.d.dead = true ∧ s'.kept = s.kept ∧ s'.pages = H ∧ s'.d.row.length ≤ 4096 ∧
      ∀ fates, ∃ t, SG (K + 600) H t ∧ t.d = s'.d.restart fates ∧ t.d.left = -1 ∧ t.d.pages.length = s.d.pages.length ∧ (t.kept = s.kept ∨ t.kept = (now, (0 : Int)).1)) := by
    intro rec now hr h1 h4 hs hn
    rcases StoreM.write_cases h hK rec now hr h1 hs hn with hx | ⟨hx, hy⟩ | ⟨hx, hy⟩
    · exact .inr (.inl ⟨rfl, hx⟩)
    · exact .inr (.inr (.inl ⟨rfl, hx, fun n hn => allE_fits hn hy rfl⟩))
    · exact .inr (.inr (.inr ⟨rfl, h4, hx, hy⟩))
  by_cases h0 : a.k % 5 = 0
  · by_cases hp : s.kept.promiseOk a.e = true
    · have e1 : s.kept.next a = ({ s.kept with promised := a.e }, 0) := by simp [KeptM.next, KeptM.promiseD, h0, hp]
      have e2 : s.act a = s.write (2 :: be 8 a.e) { s.kept with promised := a.e } := by simp [StoreM.act, StoreM.promise, hlv, hdd, h0, hp]
      rw [e1] at hok ⊢
      rw [e2]
      exact main _ _ (recOne_promise s.kept a.e) (by simp) (by omega) hok.short hok.n
    · have e1 : s.kept.next a = (s.kept, 1) := by simp [KeptM.next, KeptM.promiseD, h0, hp]
      have e2 : s.act a = (s, 1) := by simp [StoreM.act, StoreM.promise, hlv, hdd, h0, hp]
      rw [e1, e2]
      exact .inl ⟨rfl, rfl, rfl⟩
  · by_cases h1 : a.k % 5 = 1
    · by_cases hp : s.kept.adoptOk a.e a.ls = true
      · have e1 : s.kept.next a = (⟨a.e, a.e, a.ls⟩, 0) := by simp [KeptM.next, KeptM.adoptD, h1, hp]
        have e2 : s.act a = s.write (3 :: (be 8 a.e ++ encL a.ls)) ⟨a.e, a.e, a.ls⟩ := by simp [StoreM.act, StoreM.adopt, hlv, hdd, h1, hp]
        rw [e1] at hok ⊢
        rw [e2]
        exact main _ _ (recOne_adopt s.kept a.e a.ls hok.short hok.n) (by simp) (by omega) hok.short hok.n
      · have e1 : s.kept.next a = (s.kept, 1) := by simp [KeptM.next, KeptM.adoptD, h1, hp]
        have e2 : s.act a = (s, 1) := by simp [StoreM.act, StoreM.adopt, hlv, hdd, h1, hp]
        rw [e1, e2]
        exact .inl ⟨rfl, rfl, rfl⟩
    · by_cases h4 : a.k % 5 = 4
      · have e1 : s.kept.next a = (s.kept, 0) := by simp [KeptM.next, h4]
        have e2 : s.act a = (s, 0) := by simp [StoreM.act, h4]
        rw [e1, e2]
        exact .inr (.inl ⟨rfl, s, rfl, h.mono (by omega), rfl, rfl, fun h => h⟩)
      · by_cases hp : s.kept.appendOk a.ls = true
        · have e1 : s.kept.next a = ({ s.kept with lines := s.kept.lines ++ a.ls }, 0) := by simp [KeptM.next, KeptM.appendD, h0, h1, h4, hp]
          have e2 : s.act a = s.write (4 :: encL a.ls) { s.kept with lines := s.kept.lines ++ a.ls } := by simp [StoreM.act, StoreM.append, hlv, hdd, h0, h1, h4, hp]
          have hn := hok
          rw [e1] at hok ⊢
          rw [e2]
          have hsl : Short a.ls := fun x hx => hok.short x (List.mem_append_right _ hx)
          have hnl : a.ls.length ≤ 256 := by have := (appendOk_small hp).1; omega
          exact main _ _ (recOne_append s.kept a.ls hsl hnl) (by simp) h4 hok.short hok.n
        · have e1 : s.kept.next a = (s.kept, 1) := by simp [KeptM.next, KeptM.appendD, h0, h1, h4, hp]
          have e2 : s.act a = (s, 1) := by simp [StoreM.act, StoreM.append, hlv, hdd, h0, h1, h4, hp]
          rw [e1, e2]
          exact .inl ⟨rfl, rfl, rfl⟩
end Go.Proofs.YtfgggkheadfiaaaR
/- Contracts of the document's answer of layer 9: Promise. -/
namespace Go.Proofs.YtfgggkheadfiaaaR
open Go Go.RowKit
attribute [local go_sem ↓] Go.wp_at_zero Go.wp_at_succ
/-- What the document's acts answer. -/
def KRet (q : KeptM × Int) (v : Value) (w' : World) (o' : Own) : Prop := ∃ lv', v = .tuple #[keptV q.1.promised q.1.current lv', .int .i64 q.2] ∧ Lines w' o' 0 lv' q.1.lines
end Go.Proofs.YtfgggkheadfiaaaR
/- Contracts of the document's answer of layer 9: Append, Fits. -/
namespace Go.Proofs.YtfgggkheadfiaaaR
open Go Go.RowKit
attribute [local go_sem ↓] Go.wp_at_zero Go.wp_at_succ
/-- Objects X are plain data from now on. -/
def untag (X : Nat) (o : Own) : Own := fun k => if (o k).1 = X then (0, 0) else o k
theorem untag_zero {X : Nat} {o : Own} {k : Nat} (h : (o k).1 = 0) : (untag X o k).1 = 0 := by
  unfold untag; split
  · rfl
  · exact h
theorem Step.untag {X : Nat} {w w' : World} {o o' : Own} (h : Step (Only X) w o w' o') (hX : ∀ k, k < w.heap.size → (o k).1 ≠ X) : Step Nobody w o w' (untag X o') :=
  ⟨h.os, h.tape, h.output, h.size, fun k hk => by
    have := h.own k hk
    unfold Go.Proofs.YtfgggkheadfiaaaR.untag
    rw [this, if_neg (hX k hk)], fun k hk _ => h.block k hk (fun e => hX k hk e)⟩
theorem LRow.plain {w : World} {o : Own} {X : Nat} {v : Value} {ls : List LineM} (h : LRow w o 0 (X, 0) v ls) : Lines w (untag X o) 0 v ls := by
  obtain ⟨cs, h1, h2, h3, h4⟩ := h
  refine ⟨cs, ?_, h3.retag2 fun b _ hb => untag_zero hb, Fresh.zero v, h4⟩
  rcases h1.2 with ⟨rfl, h0⟩ | ⟨g, cap, cur, rfl, q1, q2, q3, q4, q5, q6⟩
  · refine .inl ⟨⟨none, 0, rfl⟩, h0, ?_⟩
    apply List.eq_nil_of_length_eq_zero; rw [h1.1, h0]
  · refine .inr ⟨g, 0, cap, rfl, q3, q4, by unfold untag; rw [h2 g rfl]; simp, lt_of_block q2, ?_⟩
    have := range_of_block (w := w) (b := g) (cs := cur.toList) (E := 113) (fr := (0, 0)) (by simpa using q2) 0 (ls.length * 2)
    rw [List.drop_zero, q6] at this; exact this
theorem LRow.appendLines {W : World} {o : Own} {X b2 : Nat} {v v2 : Value} {l1 l2 : List LineM} (h : LRow W o 0 (X, 0) v l1) (hX : X ≠ 0) (h2 : Lines W o b2 v2 l2) (hn : l1.length + l2.length ≤ 100000) :
    ∃ nv w' o', (Builtin.append_ #[93, 93] 93 #[v, v2]).run Try.prog W = .ok nv w' ∧ LRow w' o' 0 (X, 0) nv (l1 ++ l2) ∧ Step (Only X) W o w' o' := by
  by_cases h0 : l2.length = 0
  · have e := List.eq_nil_of_length_eq_zero h0
    subst e
    obtain ⟨a, c, rfl⟩ := h.form
    obtain ⟨a2, c2, rfl⟩ := h2.form
    have := h.capOk.1
    refine ⟨_, W, o, run_append_none (P := Try.prog) W 93 93 113 2 Try.underlying93 (by kernel_rfl) a a2 l1.length c c2 this (by simp at hn; omega), by rw [List.append_nil]; exact h, Step.refl _ _ _⟩
  · obtain ⟨cs, h3, h4, -, -⟩ := h2
    rcases h3 with ⟨_, q, -⟩ | ⟨g, off, c, rfl, q1, q2, q3, q4, q5⟩
    · omega
    · obtain ⟨nv, w', o', a1, a2, a3, -, -⟩ := h.append hX (Nat.zero_le _) q5 h4 (fun u _ => Fresh.zero u) (by omega) hn (c := c)
      exact ⟨nv, w', o', a1, a2, a3⟩
section
variable {w : World} {o : Own} {p c : BitVec 64} {lv lv2 : Value} {ls ls2 : List LineM}
end
end Go.Proofs.YtfgggkheadfiaaaR
/- Contracts of the document's answer of layer 8: Leaf, Says. -/
namespace Go.Proofs.YtfgggkheadfiaaaR
open Go Go.RowKit
attribute [local go_sem ↓] Go.wp_at_zero Go.wp_at_succ

theorem bytesRow_take (l : List UInt8) (c : Nat) : (bytesRow ⟨l.toArray⟩ c).toList.take l.length = bvs l := by
  unfold bytesRow
  simp only [Array.toList_append, Array.toList_map]
  rw [List.take_left' (by simp)]; rfl
theorem conv_str_bytes (w : World) (o : Own) (l : List UInt8) (hl : l.length ≤ 1000000) : ∃ c w' o', (convert 9 28 (str l)).run Try.prog w = .ok (.slice (some ⟨w.heap.size, 0, none⟩) l.length c) w' ∧ Step Nobody w o w' o' ∧ Bytes w' o' (.slice (some ⟨w.heap.size, 0, none⟩) l.length c) l := by
  have h := run_bytes_of_string (P := Try.prog) w 9 28 5 ⟨l.toArray⟩ Try.underlying9 Try.underlying28 Try.underlying5
  have hs : (⟨l.toArray⟩ : ByteArray).size = l.length := by simp [ByteArray.size]
  rw [hs] at h
  refine ⟨_, _, _, h, ((Step.refl Nobody w o).drew).alloc _ (0, 0), .inr ⟨w.heap.size, 0, _, rfl, grownCap_ge _ _ _ _, grownCap_le_maxLen _ _ _ _ (by simp only [maxLen]; omega), by rw [show w.drew.heap.size = w.heap.size from rfl, tagAt_same], by simp, ?_⟩⟩
  have hh := heap_alloc_new w.drew (.cells (bytesRow ⟨l.toArray⟩ (grownCap w l.length 0 5)) 5 ((bytesRow ⟨l.toArray⟩ (grownCap w l.length 0 5)).size, (bytesRow ⟨l.toArray⟩ (grownCap w l.length 0 5)).size + 1))
  have hr := range_of_block (cs := (bytesRow ⟨l.toArray⟩ (grownCap w l.length 0 5)).toList) (by rw [Array.toArray_toList]; exact hh) 0 l.length
  rw [List.drop_zero, bytesRow_take] at hr
  exact hr
end Go.Proofs.YtfgggkheadfiaaaR
/- Contract of the document's Text (what is kept, as a text). -/
namespace Go.Proofs.YtfgggkheadfiaaaR
open Go Go.RowKit
attribute [local go_sem ↓] Go.wp_at_zero Go.wp_at_succ

def loHi (n : Nat) : List UInt8 := [UInt8.ofNat n, UInt8.ofNat (n / 256)]
def pairsT (p c : BitVec 64) (k : Nat) : List UInt8 := (List.range k).flatMap fun i => [beB p i, beB c i]
def lineText (x : LineM) : List UInt8 := (List.range 7).map (beB x.e) ++ loHi x.b.length ++ x.b
def textM (p c : BitVec 64) (ls : List LineM) : List UInt8 := loHi ls.length ++ pairsT p c 7 ++ ls.flatMap lineText
theorem pairsT_succ (p c : BitVec 64) (k : Nat) : pairsT p c (k + 1) = pairsT p c k ++ [beB p k, beB c k] := by
  unfold pairsT; rw [List.range_succ, List.flatMap_append]; simp
theorem length_pairsT (p c : BitVec 64) (k : Nat) : (pairsT p c k).length = 2 * k := by
  induction k with
  | zero => rfl
  | succ k ih => rw [pairsT_succ, List.length_append, ih]; simp; omega
set_option maxRecDepth 100000 in
theorem build2 (w : World) (a b : Int) : (Instr.buildSlice 28 2 #[(0, .int .u8 a), (1, .int .u8 b)]).run Try.prog w = .ok (.slice (some ⟨w.heap.size, 0, none⟩) 2 2) (w.alloc (.cells #[.int .u8 a, .int .u8 b] 5)) := by kernel_rfl
set_option maxRecDepth 100000 in
theorem build9 (w : World) (a b c d e f g h i : Int) : (Instr.buildSlice 28 9 #[(0, .int .u8 a), (1, .int .u8 b), (2, .int .u8 c), (3, .int .u8 d), (4, .int .u8 e), (5, .int .u8 f), (6, .int .u8 g), (7, .int .u8 h), (8, .int .u8 i)]).run Try.prog w = .ok (.slice (some ⟨w.heap.size, 0, none⟩) 9 9) (w.alloc (.cells #[.int .u8 a, .int .u8 b, .int .u8 c, .int .u8 d, .int .u8 e, .int .u8 f, .int .u8 g, .int .u8 h, .int .u8 i] 5)) := by kernel_rfl
theorem wrap8 {x : Int} {b : UInt8} (h : x % 256 = (b.toNat : Int)) : IntKind.u8.wrap x = (b.toNat : Int) := by
  rw [← h]; simp [IntKind.wrap, IntKind.bits, IntKind.signed]
section
variable {w : World} {o : Own} {base : Nat} {p c : BitVec 64} {v : Value} {ls : List LineM}
set_option maxRecDepth 100000 in
set_option maxHeartbeats 6400000 in
theorem rtext9_any (h : Lines w o base v ls) (hn : ls.length ≤ 60000) (hl : (ls.flatMap lineText).length ≤ 1300000) :
    Calls Try.prog 59 #[.int .u64 (p.toNat : Int), .int .u64 (c.toNat : Int), v] w (Ret Nobody w o fun r _w' _o' => r = str (textM p c ls)) := by
  obtain ⟨la, lc, rfl⟩ := h.form
  obtain ⟨N, hN⟩ : ∃ N, ls.length = N := ⟨_, rfl⟩
  have hcv := conv_string (bytes_new w o (loHi N) (by simp [loHi]))
  have hcv' := hidden (show (convert 28 9 (.slice (some ⟨w.heap.size, 0, none⟩) 2 2)).run Try.prog (w.alloc (.cells #[.int .u8 ((UInt8.ofNat N).toNat : Int), .int .u8 ((UInt8.ofNat (N / 256)).toNat : Int)] 5)) = .ok (str (loHi N)) (w.alloc (.cells #[.int .u8 ((UInt8.ofNat N).toNat : Int), .int .u8 ((UInt8.ofNat (N / 256)).toNat : Int)] 5)) from hcv)
  have hst := hidden ((Step.refl Nobody w o).alloc (.cells #[.int .u8 ((UInt8.ofNat N).toNat : Int), .int .u8 ((UInt8.ofNat (N / 256)).toNat : Int)] 5) (0, 0))
  have e1 : (N : Int) % 256 = ((UInt8.ofNat N).toNat : Int) := by rw [UInt8.toNat_ofNat']; push_cast; rfl
  have e2 : (N : Int) / 256 = ((UInt8.ofNat (N / 256)).toNat : Int) := by rw [UInt8.toNat_ofNat']; omega
  have hbs := hidden (show (Instr.buildSlice 28 2 #[(0, .int .u8 ((N : Int) % 256)), (1, .int .u8 ((N : Int) / 256))]).run Try.prog w = .ok (.slice (some ⟨w.heap.size, 0, none⟩) 2 2) (w.alloc (.cells #[.int .u8 ((UInt8.ofNat N).toNat : Int), .int .u8 ((UInt8.ofNat (N / 256)).toNat : Int)] 5)) from by
    rw [build2, e1, e2])
  clear e1 e2
  have hNI : (0 : Int) ≤ (N : Int) ∧ (N : Int) ≤ 60000 := by omega
  have hH := hidden h
  have hlH := hidden hl
  have hNH := hidden hN
  rw [hN] at hH ⊢
  clear h hl hN hn hcv
  go_enter Try.func59, Try.ntmps59
  go_wp2_with (first
    | ((with_reducible apply lit_buildSlice #[(0, .int .u8 ((N : Int) % 256)), (1, .int .u8 ((N : Int) / 256))] rfl); exact hbs.out; simp only [Act.put, List.setIfInBounds_toArray, List.set_cons_zero, List.set_cons_succ])
    | (with_reducible apply lit_convert); exact hcv'.out; simp only [Act.put, List.setIfInBounds_toArray, List.set_cons_zero, List.set_cons_succ])
  clear hbs hcv'
  obtain ⟨W0, hW0⟩ : ∃ W0, w.alloc (.cells #[.int .u8 ((UInt8.ofNat N).toNat : Int), .int .u8 ((UInt8.ofNat (N / 256)).toNat : Int)] 5) = W0 := ⟨_, rfl⟩
  rw [hW0] at hst ⊢
  clear hW0
  go_loopw [7, 8] (fun sv i wr => ∃ (j : Nat) (oj : Own), j ≤ 7 ∧ i = .int .i64 ((8 * j : Nat) : Int) ∧ sv = str (loHi N ++ pairsT p c j) ∧ Step Nobody w o wr oj) (fun _ i _ => 56 - (intOf i).toNat)
  case atStart => exact ⟨0, _, by omega, rfl, by simp [pairsT], hst.out⟩
  case round =>
    clear hst
    obtain ⟨j, oj, hj, rfl, rfl, hst⟩ := hrel
    by_cases hlt : j < 7
    · have hbp := beB_int2 p j
      have hbc := beB_int2 c j
      obtain ⟨bp, hbpE⟩ : ∃ b, beB p j = b := ⟨_, rfl⟩
      obtain ⟨bc, hbcE⟩ : ∃ b, beB c j = b := ⟨_, rfl⟩
      obtain ⟨e8, he8⟩ : ∃ e8 : Nat, 8 * j = e8 := ⟨_, rfl⟩
      rw [hbpE, he8] at hbp
      rw [hbcE, he8] at hbc
      have hsT := pairsT_succ p c j
      rw [hbpE, hbcE] at hsT
      rw [he8]
      have he8I : (0 : Int) ≤ (e8 : Int) ∧ (e8 : Int) < 56 := by omega
      obtain ⟨R0, hR0⟩ : ∃ R0, loHi N ++ pairsT p c j = R0 := ⟨_, rfl⟩
      have hR0l : R0.length ≤ 100 := by rw [← hR0, List.length_append, length_pairsT]; simp [loHi]; omega
      rw [hR0]
      have hbs := hidden (build2 wr.drew (bp.toNat : Int) (bc.toNat : Int))
      have hcv := hidden (show (convert 28 9 (.slice (some ⟨wr.heap.size, 0, none⟩) 2 2)).run Try.prog (wr.drew.alloc (.cells #[.int .u8 (bp.toNat : Int), .int .u8 (bc.toNat : Int)] 5)) = .ok (str [bp, bc]) (wr.drew.alloc (.cells #[.int .u8 (bp.toNat : Int), .int .u8 (bc.toNat : Int)] 5)) from conv_string (bytes_new wr.drew oj [bp, bc] (by simp)))
      have had := hidden (run_str_add (wr.drew.alloc (.cells #[.int .u8 (bp.toNat : Int), .int .u8 (bc.toNat : Int)] 5)) R0 [bp, bc] (by simp; omega))
      have hst2 := hidden (hst.drew.alloc (.cells #[.int .u8 (bp.toNat : Int), .int .u8 (bc.toNat : Int)] 5) (0, 0))
      have hR1 := hidden (show R0 ++ [bp, bc] = loHi N ++ pairsT p c (j + 1) by rw [hsT, ← hR0, List.append_assoc])
      have htr : True := trivial
      have hp0 : (0 : Int) ≤ (p.toNat : Int) ∧ (p.toNat : Int) ≤ 18446744073709551615 := by have := p.isLt; omega
      have hc0 : (0 : Int) ≤ (c.toNat : Int) ∧ (c.toNat : Int) ≤ 18446744073709551615 := by have := c.isLt; omega
      clear hsT hR0 hst hbpE hbcE
      go_wp2_with fail
      refine wp_region_need (fun w' => True) (fun _ => true) (by kernel_rfl) htr (fun hHeld => ?_)
      refine wpAnyN_tk (i := 0) (v := ?_) rfl (by kernel_rfl) (fun _ _ _ h => h) (Or.inl ⟨by rfl, ?_⟩) (by assumption) ?_
      rotate_left
      · intro w hSw; ((try dsimp only at hSw); go_simp; (try with_reducible rfl))
      simp only [Act.put, List.setIfInBounds_toArray, List.set_cons_zero, List.set_cons_succ]
      refine wpAnyN_tk (i := 1) (v := ?_) rfl (by kernel_rfl) (fun _ _ _ h => h) (Or.inl ⟨by rfl, ?_⟩) (by assumption) ?_
      rotate_left
      · intro w hSw; ((try dsimp only at hSw); go_simp; (try with_reducible rfl))
      simp only [Act.put, List.setIfInBounds_toArray, List.set_cons_zero, List.set_cons_succ]
      refine wpAnyN_tk (i := 2) (v := ?_) rfl (by kernel_rfl) (fun _ _ _ h => h) (Or.inl ⟨by rfl, ?_⟩) (by assumption) ?_
      rotate_left
      · intro w hSw; ((try dsimp only at hSw); go_simp; (try with_reducible rfl))
      simp only [Act.put, List.setIfInBounds_toArray, List.set_cons_zero, List.set_cons_succ]
      refine wpAnyN_tk (i := 3) (v := ?_) rfl (by kernel_rfl) (fun _ _ _ h => h) (Or.inl ⟨by rfl, ?_⟩) (by assumption) ?_
      rotate_left
      · intro w hSw; ((try dsimp only at hSw); go_simp; (try with_reducible rfl))
      simp only [Act.put, List.setIfInBounds_toArray, List.set_cons_zero, List.set_cons_succ]
      refine wpAnyN_tk (i := 4) (v := .int .u8 (bp.toNat : Int)) rfl (by kernel_rfl) (fun _ _ _ h => h) (Or.inl ⟨by rfl, fun w hSw => by (try dsimp only at hSw); go_simp; exact wrap8 hbp⟩) (by assumption) ?_
      simp only [Act.put, List.setIfInBounds_toArray, List.set_cons_zero, List.set_cons_succ]
      refine wpAnyN_tk (i := 5) (v := ?_) rfl (by kernel_rfl) (fun _ _ _ h => h) (Or.inl ⟨by rfl, ?_⟩) (by assumption) ?_
      rotate_left
      · intro w hSw; ((try dsimp only at hSw); go_simp; (try with_reducible rfl))
      simp only [Act.put, List.setIfInBounds_toArray, List.set_cons_zero, List.set_cons_succ]
      refine wpAnyN_tk (i := 6) (v := ?_) rfl (by kernel_rfl) (fun _ _ _ h => h) (Or.inl ⟨by rfl, ?_⟩) (by assumption) ?_
      rotate_left
      · intro w hSw; ((try dsimp only at hSw); go_simp; (try with_reducible rfl))
      simp only [Act.put, List.setIfInBounds_toArray, List.set_cons_zero, List.set_cons_succ]
      refine wpAnyN_tk (i := 7) (v := ?_) rfl (by kernel_rfl) (fun _ _ _ h => h) (Or.inl ⟨by rfl, ?_⟩) (by assumption) ?_
      rotate_left
      · intro w hSw; ((try dsimp only at hSw); go_simp; (try with_reducible rfl))
      simp only [Act.put, List.setIfInBounds_toArray, List.set_cons_zero, List.set_cons_succ]
      refine wpAnyN_tk (i := 8) (v := .int .u8 (bc.toNat : Int)) rfl (by kernel_rfl) (fun _ _ _ h => h) (Or.inl ⟨by rfl, fun w hSw => by (try dsimp only at hSw); go_simp; exact wrap8 hbc⟩) (by assumption) ?_
      simp only [Act.put, List.setIfInBounds_toArray, List.set_cons_zero, List.set_cons_succ]
      refine wpAnyN_one (i := 9) rfl (by kernel_rfl) ?_
      apply lit_buildSlice #[(0, .int .u8 (bp.toNat : Int)), (1, .int .u8 (bc.toNat : Int))] rfl
      · exact hbs.out
      simp only [Act.put, List.setIfInBounds_toArray, List.set_cons_zero, List.set_cons_succ]
      go_wp2_with fail
      refine ⟨fun _ => htr, ?_⟩
      refine wpAnyN_one (i := 10) rfl (by kernel_rfl) ?_
      apply lit_convert
      · exact hcv.out
      simp only [Act.put, List.setIfInBounds_toArray, List.set_cons_zero, List.set_cons_succ]
      go_wp2_with fail
      refine ⟨fun _ => htr, ?_⟩
      refine wpAnyN_one (i := 11) rfl (by kernel_rfl) ?_
      apply lit_add
      · exact had.out
      simp only [Act.put, List.setIfInBounds_toArray, List.set_cons_zero, List.set_cons_succ]
      go_wp2_with fail
      refine ⟨fun _ => htr, ?_⟩
      refine wpAnyN_tk (i := 12) (v := ?_) rfl (by kernel_rfl) (fun _ _ _ h => h) (Or.inl ⟨by rfl, ?_⟩) (by assumption) ?_
      rotate_left
      · intro w hSw; ((try dsimp only at hSw); go_simp; (try with_reducible rfl))
      simp only [Act.put, List.setIfInBounds_toArray, List.set_cons_zero, List.set_cons_succ]
      refine wpAnyN_done (by kernel_rfl) ?_ _
      rw [hR1.out]
      go_wp2_with fail
      go_roundw
      case rel => exact ⟨j + 1, _, by omega, by rw [show ((8 * (j + 1) : Nat) : Int) = (e8 : Int) + 8 by omega], rfl, hst2.out⟩
      case measure => simp [intOf]; omega
    · obtain rfl : j = 7 := by omega
      obtain ⟨R0, hR0⟩ : ∃ R0, loHi N ++ pairsT p c 7 = R0 := ⟨_, rfl⟩
      have hR0l : R0.length ≤ 100 := by rw [← hR0, List.length_append, length_pairsT]; simp [loHi]
      rw [hR0]
      have hR0H := hidden hR0
      clear hR0
      have hLw := hidden (hH.out.step hst (fun h => h))
      go_wp2_with fail
      have hst' := hidden hst
      clear hst
      go_loopw [7, 9] (fun sv i wr => ∃ (k : Nat) (oj : Own), k ≤ N ∧ i = .int .i64 k ∧ sv = str (R0 ++ (ls.take k).flatMap lineText) ∧ Lines wr oj base (.slice la N lc) ls ∧ Step Nobody w o wr oj) (fun _ i _ => N - (intOf i).toNat)
      case atStart => exact ⟨0, _, by omega, rfl, by simp, hLw.out, hst'.out⟩
      case round =>
        clear hst' hLw
        obtain ⟨k, oj, hk, rfl, rfl, hLk, hst⟩ := hrel
        by_cases hlt : k < N
        · have hltI : (k : Int) < N := by omega
          obtain ⟨x, hx⟩ : ∃ x, ls[k]? = some x := ⟨_, List.getElem?_eq_getElem (by have := hNH.out; omega)⟩
          obtain ⟨b, off, bv, rfl, hrg, hby, -, hblt, -⟩ := hLk.at hx
          have hts : (ls.take (k + 1)).flatMap lineText = (ls.take k).flatMap lineText ++ lineText x := by
            rw [List.take_add_one, hx]; simp
          have htl : ((ls.take (k + 1)).flatMap lineText).length ≤ 1300000 := by
            refine Nat.le_trans ?_ hlH.out
            conv => rhs; rw [← List.take_append_drop (k + 1) ls, List.flatMap_append, List.length_append]
            omega
          rw [hts, List.length_append] at htl
          have hxl : x.b.length ≤ 1300000 := by
            have : (lineText x).length = 9 + x.b.length := by simp [lineText, loHi]; omega
            omega
          obtain ⟨R1, hR1⟩ : ∃ R1, R0 ++ (ls.take k).flatMap lineText = R1 := ⟨_, rfl⟩
          have hR1l : R1.length + (lineText x).length ≤ 1300100 := by rw [← hR1, List.length_append]; omega
          have hR2 := hidden (show R1 ++ lineText x = R0 ++ (ls.take (k + 1)).flatMap lineText by rw [hts, ← hR1, List.append_assoc])
          rw [hR1]
          clear hts htl hR1
          obtain ⟨ba, bc, rfl⟩ := slc_form hby
          have cE : wr.cell? ⟨b, off + k * 2, none⟩ = some (.int .u64 (x.e.toNat : Int)) := hrg 0 _ rfl
          have cB : wr.cell? ⟨b, off + k * 2 + 1, none⟩ = some (.slice ba x.b.length bc) := hrg 1 _ rfl
          obtain ⟨L, hL⟩ : ∃ L, x.b.length = L := ⟨_, rfl⟩
          have hcB := conv_string hby
          have hrow := bytes_new wr.drew oj ((List.range 7).map (beB x.e) ++ loHi L) (by simp [loHi])
          have hcR := conv_string hrow
          have s2 := hst.drew.alloc (.cells (bvs ((List.range 7).map (beB x.e) ++ loHi L)).toArray 5) (0, 0)
          have s2b := (Step.refl Nobody wr oj).drew.alloc (.cells (bvs ((List.range 7).map (beB x.e) ++ loHi L)).toArray 5) (0, 0)
          have hL2 := hLk.step s2b (fun h => h)
          have hby2 := hby.step s2b (fun h => h)
          have hcB2 := conv_string hby2
          have hrg2 : (wr.drew.alloc (.cells (bvs ((List.range 7).map (beB x.e) ++ loHi L)).toArray 5)).rangeAt b (off + k * 2) [.int .u64 (x.e.toNat : Int), .slice ba x.b.length bc] := range_same hrg (Below.heap_alloc wr.drew _ b hblt)
          have cE2 : (wr.drew.alloc (.cells (bvs ((List.range 7).map (beB x.e) ++ loHi L)).toArray 5)).cell? ⟨b, off + k * 2, none⟩ = some (.int .u64 (x.e.toNat : Int)) := hrg2 0 _ rfl
          have cB2 : (wr.drew.alloc (.cells (bvs ((List.range 7).map (beB x.e) ++ loHi L)).toArray 5)).cell? ⟨b, off + k * 2 + 1, none⟩ = some (.slice ba x.b.length bc) := hrg2 1 _ rfl
          have hlt9 : ((List.range 7).map (beB x.e) ++ loHi L).length = 9 := by simp [loHi]
          have hltx : (lineText x).length = 9 + x.b.length := by simp [lineText, loHi]; omega
          have had1 := hidden (run_str_add (wr.drew.alloc (.cells (bvs ((List.range 7).map (beB x.e) ++ loHi L)).toArray 5)) R1 ((List.range 7).map (beB x.e) ++ loHi L) (by rw [hlt9]; omega))
          have had2 := hidden (run_str_add (wr.drew.alloc (.cells (bvs ((List.range 7).map (beB x.e) ++ loHi L)).toArray 5)) (R1 ++ ((List.range 7).map (beB x.e) ++ loHi L)) x.b (by rw [List.length_append, hlt9]; omega))
          clear hlt9 hltx
          have hbs := hidden (show (Instr.buildSlice 28 9 #[(0, .int .u8 ((beB x.e 0).toNat : Int)), (1, .int .u8 ((beB x.e 1).toNat : Int)), (2, .int .u8 ((beB x.e 2).toNat : Int)), (3, .int .u8 ((beB x.e 3).toNat : Int)), (4, .int .u8 ((beB x.e 4).toNat : Int)), (5, .int .u8 ((beB x.e 5).toNat : Int)), (6, .int .u8 ((beB x.e 6).toNat : Int)), (7, .int .u8 ((UInt8.ofNat L).toNat : Int)), (8, .int .u8 ((UInt8.ofNat (L / 256)).toNat : Int))]).run Try.prog wr.drew = .ok (.slice (some ⟨wr.heap.size, 0, none⟩) 9 9) (wr.drew.alloc (.cells (bvs ((List.range 7).map (beB x.e) ++ loHi L)).toArray 5)) from build9 wr.drew _ _ _ _ _ _ _ _ _)
          have hR2' := hidden (show R1 ++ ((List.range 7).map (beB x.e) ++ loHi L) ++ x.b = R0 ++ (ls.take (k + 1)).flatMap lineText by rw [← hR2.out, List.append_assoc]; rw [← hL]; rfl)
          have hS : wr.drew.cell? ⟨b, off + k * 2, none⟩ = some (.int .u64 (x.e.toNat : Int)) ∧ wr.drew.cell? ⟨b, off + k * 2 + 1, none⟩ = some (.slice ba x.b.length bc) ∧ (convert 28 9 (.slice ba x.b.length bc)).run Try.prog wr.drew = .ok (str x.b) wr.drew := ⟨cE, cB, conv_string (hby.step (Step.refl Nobody wr oj).drew (fun h => h))⟩
          have hS2 := hidden (And.intro cE2 (And.intro cB2 hcB2))
          have hF := hidden (And.intro s2 hL2)
          have hcRH := hidden (show (convert 28 9 (.slice (some ⟨wr.heap.size, 0, none⟩) 9 9)).run Try.prog _ = .ok (str ((List.range 7).map (beB x.e) ++ loHi L)) _ from hcR)
          obtain ⟨w2, hw2⟩ : ∃ w2, wr.drew.alloc (.cells (bvs ((List.range 7).map (beB x.e) ++ loHi L)).toArray 5) = w2 := ⟨_, rfl⟩
          rw [hw2] at had1 had2 hbs hS2 hF hcRH
          have hLI0 : L ≤ 1300000 := by omega
          clear hR2 hw2 hrg2 cE2 cB2 hcB2 hcR hrow s2 s2b hL2 hby2 hby hcB hrg hR1l hxl
          rw [hL] at hS hS2 cB
          obtain ⟨T9, hT9⟩ : ∃ T9, (List.range 7).map (beB x.e) ++ loHi L = T9 := ⟨_, rfl⟩
          rw [hT9] at had1 had2 hcRH hR2'
          clear hT9
          have hbE := hidden (beB_int2 x.e)
          have hxe : (0 : Int) ≤ (x.e.toNat : Int) ∧ (x.e.toNat : Int) ≤ 18446744073709551615 := by have := x.e.isLt; omega
          have hLb := hidden (show (L : Int) % 256 = ((UInt8.ofNat L).toNat : Int) ∧ (L : Int) / 256 % 256 = ((UInt8.ofNat (L / 256)).toNat : Int) by
            constructor
            · rw [UInt8.toNat_ofNat']; push_cast; rfl
            · rw [UInt8.toNat_ofNat']; push_cast; rfl)
          have hLI : (0 : Int) ≤ (L : Int) ∧ (L : Int) ≤ 1300000 := by omega
          clear cE cB
          go_wp2_with fail
          refine wp_region_need (fun w' => w'.cell? ⟨b, off + k * 2, none⟩ = some (.int .u64 (x.e.toNat : Int)) ∧ w'.cell? ⟨b, off + k * 2 + 1, none⟩ = some (.slice ba L bc) ∧ (convert 28 9 (.slice ba L bc)).run Try.prog w' = .ok (str x.b) w') (fun _ => true) (by kernel_rfl) hS (fun hHeld => ?_)
          refine wpAnyN_tk (i := 0) (v := ?_) rfl (by kernel_rfl) (fun _ _ _ h => h) (Or.inl ⟨by rfl, ?_⟩) (by assumption) ?_
          rotate_left
          · intro w hSw; ((try dsimp only at hSw); go_simp; (try with_reducible rfl))
          simp only [Act.put, List.setIfInBounds_toArray, List.set_cons_zero, List.set_cons_succ]
          refine wpAnyN_tk (i := 1) (v := ?_) rfl (by kernel_rfl) (fun _ _ _ h => h) (Or.inl ⟨by rfl, ?_⟩) (by assumption) ?_
          rotate_left
          · intro w hSw; ((try dsimp only at hSw); go_simp; (try with_reducible rfl))
          simp only [Act.put, List.setIfInBounds_toArray, List.set_cons_zero, List.set_cons_succ]
          refine wpAnyN_tk (i := 2) (v := ?_) rfl (by kernel_rfl) (fun _ _ _ h => h) (Or.inl ⟨by rfl, ?_⟩) (by assumption) ?_
          rotate_left
          · intro w hSw; ((try dsimp only at hSw); go_simp; (try with_reducible rfl))
          simp only [Act.put, List.setIfInBounds_toArray, List.set_cons_zero, List.set_cons_succ]
          refine wpAnyN_tk (i := 3) (v := ?_) rfl (by kernel_rfl) (fun _ _ _ h => h) (Or.inl ⟨by rfl, ?_⟩) (by assumption) ?_
          rotate_left
          · intro w hSw; ((try dsimp only at hSw); go_simp; (try with_reducible rfl))
          simp only [Act.put, List.setIfInBounds_toArray, List.set_cons_zero, List.set_cons_succ]
          refine wpAnyN_tk (i := 4) (v := ?_) rfl (by kernel_rfl) (fun _ _ _ h => h) (Or.inl ⟨by rfl, ?_⟩) (by assumption) ?_
          rotate_left
          · intro w hSw; ((try dsimp only at hSw); go_simp; (try with_reducible rfl))
          simp only [Act.put, List.setIfInBounds_toArray, List.set_cons_zero, List.set_cons_succ]
          refine wpAnyN_tk (i := 5) (v := ?_) rfl (by kernel_rfl) (fun _ _ _ h => h) (Or.inl ⟨by rfl, ?_⟩) (by assumption) ?_
          rotate_left
          · intro w hSw; ((try dsimp only at hSw); go_simp; (try with_reducible rfl))
          simp only [Act.put, List.setIfInBounds_toArray, List.set_cons_zero, List.set_cons_succ]
          refine wpAnyN_tk (i := 6) (v := .int .u8 ((beB x.e 0).toNat : Int)) rfl (by kernel_rfl) (fun _ _ _ h => h) (Or.inl ⟨by rfl, fun w hSw => by (try dsimp only at hSw); go_simp; exact wrap8 (by have := hbE.out 0; simpa using this)⟩) (by assumption) ?_
          simp only [Act.put, List.setIfInBounds_toArray, List.set_cons_zero, List.set_cons_succ]
          refine wpAnyN_tk (i := 7) (v := ?_) rfl (by kernel_rfl) (fun _ _ _ h => h) (Or.inl ⟨by rfl, ?_⟩) (by assumption) ?_
          rotate_left
          · intro w hSw; ((try dsimp only at hSw); go_simp; (try with_reducible rfl))
          simp only [Act.put, List.setIfInBounds_toArray, List.set_cons_zero, List.set_cons_succ]
          refine wpAnyN_tk (i := 8) (v := ?_) rfl (by kernel_rfl) (fun _ _ _ h => h) (Or.inl ⟨by rfl, ?_⟩) (by assumption) ?_
          rotate_left
          · intro w hSw; ((try dsimp only at hSw); go_simp; (try with_reducible rfl))
          simp only [Act.put, List.setIfInBounds_toArray, List.set_cons_zero, List.set_cons_succ]
          refine wpAnyN_tk (i := 9) (v := ?_) rfl (by kernel_rfl) (fun _ _ _ h => h) (Or.inl ⟨by rfl, ?_⟩) (by assumption) ?_
          rotate_left
          · intro w hSw; ((try dsimp only at hSw); go_simp; (try with_reducible rfl))
          simp only [Act.put, List.setIfInBounds_toArray, List.set_cons_zero, List.set_cons_succ]
          refine wpAnyN_tk (i := 10) (v := ?_) rfl (by kernel_rfl) (fun _ _ _ h => h) (Or.inl ⟨by rfl, ?_⟩) (by assumption) ?_
          rotate_left
          · intro w hSw; ((try dsimp only at hSw); go_simp; (try with_reducible rfl))
          simp only [Act.put, List.setIfInBounds_toArray, List.set_cons_zero, List.set_cons_succ]
          refine wpAnyN_tk (i := 11) (v := ?_) rfl (by kernel_rfl) (fun _ _ _ h => h) (Or.inl ⟨by rfl, ?_⟩) (by assumption) ?_
          rotate_left
          · intro w hSw; ((try dsimp only at hSw); go_simp; (try with_reducible rfl))
          simp only [Act.put, List.setIfInBounds_toArray, List.set_cons_zero, List.set_cons_succ]
          refine wpAnyN_tk (i := 12) (v := ?_) rfl (by kernel_rfl) (fun _ _ _ h => h) (Or.inl ⟨by rfl, ?_⟩) (by assumption) ?_
          rotate_left
          · intro w hSw; ((try dsimp only at hSw); go_simp; (try with_reducible rfl))
          simp only [Act.put, List.setIfInBounds_toArray, List.set_cons_zero, List.set_cons_succ]
          refine wpAnyN_tk (i := 13) (v := .int .u8 ((beB x.e 1).toNat : Int)) rfl (by kernel_rfl) (fun _ _ _ h => h) (Or.inl ⟨by rfl, fun w hSw => by (try dsimp only at hSw); go_simp; exact wrap8 (by have := hbE.out 1; simpa using this)⟩) (by assumption) ?_
          simp only [Act.put, List.setIfInBounds_toArray, List.set_cons_zero, List.set_cons_succ]
          refine wpAnyN_tk (i := 14) (v := ?_) rfl (by kernel_rfl) (fun _ _ _ h => h) (Or.inl ⟨by rfl, ?_⟩) (by assumption) ?_
          rotate_left
          · intro w hSw; ((try dsimp only at hSw); go_simp; (try with_reducible rfl))
          simp only [Act.put, List.setIfInBounds_toArray, List.set_cons_zero, List.set_cons_succ]
          refine wpAnyN_tk (i := 15) (v := ?_) rfl (by kernel_rfl) (fun _ _ _ h => h) (Or.inl ⟨by rfl, ?_⟩) (by assumption) ?_
          rotate_left
          · intro w hSw; ((try dsimp only at hSw); go_simp; (try with_reducible rfl))
          simp only [Act.put, List.setIfInBounds_toArray, List.set_cons_zero, List.set_cons_succ]
          refine wpAnyN_tk (i := 16) (v := ?_) rfl (by kernel_rfl) (fun _ _ _ h => h) (Or.inl ⟨by rfl, ?_⟩) (by assumption) ?_
          rotate_left
          · intro w hSw; ((try dsimp only at hSw); go_simp; (try with_reducible rfl))
          simp only [Act.put, List.setIfInBounds_toArray, List.set_cons_zero, List.set_cons_succ]
          refine wpAnyN_tk (i := 17) (v := ?_) rfl (by kernel_rfl) (fun _ _ _ h => h) (Or.inl ⟨by rfl, ?_⟩) (by assumption) ?_
          rotate_left
          · intro w hSw; ((try dsimp only at hSw); go_simp; (try with_reducible rfl))
          simp only [Act.put, List.setIfInBounds_toArray, List.set_cons_zero, List.set_cons_succ]
          refine wpAnyN_tk (i := 18) (v := ?_) rfl (by kernel_rfl) (fun _ _ _ h => h) (Or.inl ⟨by rfl, ?_⟩) (by assumption) ?_
          rotate_left
          · intro w hSw; ((try dsimp only at hSw); go_simp; (try with_reducible rfl))
          simp only [Act.put, List.setIfInBounds_toArray, List.set_cons_zero, List.set_cons_succ]
          refine wpAnyN_tk (i := 19) (v := ?_) rfl (by kernel_rfl) (fun _ _ _ h => h) (Or.inl ⟨by rfl, ?_⟩) (by assumption) ?_
          rotate_left
          · intro w hSw; ((try dsimp only at hSw); go_simp; (try with_reducible rfl))
          simp only [Act.put, List.setIfInBounds_toArray, List.set_cons_zero, List.set_cons_succ]
          refine wpAnyN_tk (i := 20) (v := .int .u8 ((beB x.e 2).toNat : Int)) rfl (by kernel_rfl) (fun _ _ _ h => h) (Or.inl ⟨by rfl, fun w hSw => by (try dsimp only at hSw); go_simp; exact wrap8 (by have := hbE.out 2; simpa using this)⟩) (by assumption) ?_
          simp only [Act.put, List.setIfInBounds_toArray, List.set_cons_zero, List.set_cons_succ]
          refine wpAnyN_tk (i := 21) (v := ?_) rfl (by kernel_rfl) (fun _ _ _ h => h) (Or.inl ⟨by rfl, ?_⟩) (by assumption) ?_
          rotate_left
          · intro w hSw; ((try dsimp only at hSw); go_simp; (try with_reducible rfl))
          simp only [Act.put, List.setIfInBounds_toArray, List.set_cons_zero, List.set_cons_succ]
          refine wpAnyN_tk (i := 22) (v := ?_) rfl (by kernel_rfl) (fun _ _ _ h => h) (Or.inl ⟨by rfl, ?_⟩) (by assumption) ?_
          rotate_left
          · intro w hSw; ((try dsimp only at hSw); go_simp; (try with_reducible rfl))
          simp only [Act.put, List.setIfInBounds_toArray, List.set_cons_zero, List.set_cons_succ]
          refine wpAnyN_tk (i := 23) (v := ?_) rfl (by kernel_rfl) (fun _ _ _ h => h) (Or.inl ⟨by rfl, ?_⟩) (by assumption) ?_
          rotate_left
          · intro w hSw; ((try dsimp only at hSw); go_simp; (try with_reducible rfl))
          simp only [Act.put, List.setIfInBounds_toArray, List.set_cons_zero, List.set_cons_succ]
          refine wpAnyN_tk (i := 24) (v := ?_) rfl (by kernel_rfl) (fun _ _ _ h => h) (Or.inl ⟨by rfl, ?_⟩) (by assumption) ?_
          rotate_left
          · intro w hSw; ((try dsimp only at hSw); go_simp; (try with_reducible rfl))
          simp only [Act.put, List.setIfInBounds_toArray, List.set_cons_zero, List.set_cons_succ]
          refine wpAnyN_tk (i := 25) (v := ?_) rfl (by kernel_rfl) (fun _ _ _ h => h) (Or.inl ⟨by rfl, ?_⟩) (by assumption) ?_
          rotate_left
          · intro w hSw; ((try dsimp only at hSw); go_simp; (try with_reducible rfl))
          simp only [Act.put, List.setIfInBounds_toArray, List.set_cons_zero, List.set_cons_succ]
          refine wpAnyN_tk (i := 26) (v := ?_) rfl (by kernel_rfl) (fun _ _ _ h => h) (Or.inl ⟨by rfl, ?_⟩) (by assumption) ?_
          rotate_left
          · intro w hSw; ((try dsimp only at hSw); go_simp; (try with_reducible rfl))
          simp only [Act.put, List.setIfInBounds_toArray, List.set_cons_zero, List.set_cons_succ]
          refine wpAnyN_tk (i := 27) (v := .int .u8 ((beB x.e 3).toNat : Int)) rfl (by kernel_rfl) (fun _ _ _ h => h) (Or.inl ⟨by rfl, fun w hSw => by (try dsimp only at hSw); go_simp; exact wrap8 (by have := hbE.out 3; simpa using this)⟩) (by assumption) ?_
          simp only [Act.put, List.setIfInBounds_toArray, List.set_cons_zero, List.set_cons_succ]
          refine wpAnyN_tk (i := 28) (v := ?_) rfl (by kernel_rfl) (fun _ _ _ h => h) (Or.inl ⟨by rfl, ?_⟩) (by assumption) ?_
          rotate_left
          · intro w hSw; ((try dsimp only at hSw); go_simp; (try with_reducible rfl))
          simp only [Act.put, List.setIfInBounds_toArray, List.set_cons_zero, List.set_cons_succ]
          refine wpAnyN_tk (i := 29) (v := ?_) rfl (by kernel_rfl) (fun _ _ _ h => h) (Or.inl ⟨by rfl, ?_⟩) (by assumption) ?_
          rotate_left
          · intro w hSw; ((try dsimp only at hSw); go_simp; (try with_reducible rfl))
          simp only [Act.put, List.setIfInBounds_toArray, List.set_cons_zero, List.set_cons_succ]
          refine wpAnyN_tk (i := 30) (v := ?_) rfl (by kernel_rfl) (fun _ _ _ h => h) (Or.inl ⟨by rfl, ?_⟩) (by assumption) ?_
          rotate_left
          · intro w hSw; ((try dsimp only at hSw); go_simp; (try with_reducible rfl))
          simp only [Act.put, List.setIfInBounds_toArray, List.set_cons_zero, List.set_cons_succ]
          refine wpAnyN_tk (i := 31) (v := ?_) rfl (by kernel_rfl) (fun _ _ _ h => h) (Or.inl ⟨by rfl, ?_⟩) (by assumption) ?_
          rotate_left
          · intro w hSw; ((try dsimp only at hSw); go_simp; (try with_reducible rfl))
          simp only [Act.put, List.setIfInBounds_toArray, List.set_cons_zero, List.set_cons_succ]
          refine wpAnyN_tk (i := 32) (v := ?_) rfl (by kernel_rfl) (fun _ _ _ h => h) (Or.inl ⟨by rfl, ?_⟩) (by assumption) ?_
          rotate_left
          · intro w hSw; ((try dsimp only at hSw); go_simp; (try with_reducible rfl))
          simp only [Act.put, List.setIfInBounds_toArray, List.set_cons_zero, List.set_cons_succ]
          refine wpAnyN_tk (i := 33) (v := ?_) rfl (by kernel_rfl) (fun _ _ _ h => h) (Or.inl ⟨by rfl, ?_⟩) (by assumption) ?_
          rotate_left
          · intro w hSw; ((try dsimp only at hSw); go_simp; (try with_reducible rfl))
          simp only [Act.put, List.setIfInBounds_toArray, List.set_cons_zero, List.set_cons_succ]
          refine wpAnyN_tk (i := 34) (v := .int .u8 ((beB x.e 4).toNat : Int)) rfl (by kernel_rfl) (fun _ _ _ h => h) (Or.inl ⟨by rfl, fun w hSw => by (try dsimp only at hSw); go_simp; exact wrap8 (by have := hbE.out 4; simpa using this)⟩) (by assumption) ?_
          simp only [Act.put, List.setIfInBounds_toArray, List.set_cons_zero, List.set_cons_succ]
          refine wpAnyN_tk (i := 35) (v := ?_) rfl (by kernel_rfl) (fun _ _ _ h => h) (Or.inl ⟨by rfl, ?_⟩) (by assumption) ?_
          rotate_left
          · intro w hSw; ((try dsimp only at hSw); go_simp; (try with_reducible rfl))
          simp only [Act.put, List.setIfInBounds_toArray, List.set_cons_zero, List.set_cons_succ]
          refine wpAnyN_tk (i := 36) (v := ?_) rfl (by kernel_rfl) (fun _ _ _ h => h) (Or.inl ⟨by rfl, ?_⟩) (by assumption) ?_
          rotate_left
          · intro w hSw; ((try dsimp only at hSw); go_simp; (try with_reducible rfl))
          simp only [Act.put, List.setIfInBounds_toArray, List.set_cons_zero, List.set_cons_succ]
          refine wpAnyN_tk (i := 37) (v := ?_) rfl (by kernel_rfl) (fun _ _ _ h => h) (Or.inl ⟨by rfl, ?_⟩) (by assumption) ?_
          rotate_left
          · intro w hSw; ((try dsimp only at hSw); go_simp; (try with_reducible rfl))
          simp only [Act.put, List.setIfInBounds_toArray, List.set_cons_zero, List.set_cons_succ]
          refine wpAnyN_tk (i := 38) (v := ?_) rfl (by kernel_rfl) (fun _ _ _ h => h) (Or.inl ⟨by rfl, ?_⟩) (by assumption) ?_
          rotate_left
          · intro w hSw; ((try dsimp only at hSw); go_simp; (try with_reducible rfl))
          simp only [Act.put, List.setIfInBounds_toArray, List.set_cons_zero, List.set_cons_succ]
          refine wpAnyN_tk (i := 39) (v := ?_) rfl (by kernel_rfl) (fun _ _ _ h => h) (Or.inl ⟨by rfl, ?_⟩) (by assumption) ?_
          rotate_left
          · intro w hSw; ((try dsimp only at hSw); go_simp; (try with_reducible rfl))
          simp only [Act.put, List.setIfInBounds_toArray, List.set_cons_zero, List.set_cons_succ]
          refine wpAnyN_tk (i := 40) (v := ?_) rfl (by kernel_rfl) (fun _ _ _ h => h) (Or.inl ⟨by rfl, ?_⟩) (by assumption) ?_
          rotate_left
          · intro w hSw; ((try dsimp only at hSw); go_simp; (try with_reducible rfl))
          simp only [Act.put, List.setIfInBounds_toArray, List.set_cons_zero, List.set_cons_succ]
          refine wpAnyN_tk (i := 41) (v := .int .u8 ((beB x.e 5).toNat : Int)) rfl (by kernel_rfl) (fun _ _ _ h => h) (Or.inl ⟨by rfl, fun w hSw => by (try dsimp only at hSw); go_simp; exact wrap8 (by have := hbE.out 5; simpa using this)⟩) (by assumption) ?_
          simp only [Act.put, List.setIfInBounds_toArray, List.set_cons_zero, List.set_cons_succ]
          refine wpAnyN_tk (i := 42) (v := ?_) rfl (by kernel_rfl) (fun _ _ _ h => h) (Or.inl ⟨by rfl, ?_⟩) (by assumption) ?_
          rotate_left
          · intro w hSw; ((try dsimp only at hSw); go_simp; (try with_reducible rfl))
          simp only [Act.put, List.setIfInBounds_toArray, List.set_cons_zero, List.set_cons_succ]
          refine wpAnyN_tk (i := 43) (v := ?_) rfl (by kernel_rfl) (fun _ _ _ h => h) (Or.inl ⟨by rfl, ?_⟩) (by assumption) ?_
          rotate_left
          · intro w hSw; ((try dsimp only at hSw); go_simp; (try with_reducible rfl))
          simp only [Act.put, List.setIfInBounds_toArray, List.set_cons_zero, List.set_cons_succ]
          refine wpAnyN_tk (i := 44) (v := ?_) rfl (by kernel_rfl) (fun _ _ _ h => h) (Or.inl ⟨by rfl, ?_⟩) (by assumption) ?_
          rotate_left
          · intro w hSw; ((try dsimp only at hSw); go_simp; (try with_reducible rfl))
          simp only [Act.put, List.setIfInBounds_toArray, List.set_cons_zero, List.set_cons_succ]
          refine wpAnyN_tk (i := 45) (v := ?_) rfl (by kernel_rfl) (fun _ _ _ h => h) (Or.inl ⟨by rfl, ?_⟩) (by assumption) ?_
          rotate_left
          · intro w hSw; ((try dsimp only at hSw); go_simp; (try with_reducible rfl))
          simp only [Act.put, List.setIfInBounds_toArray, List.set_cons_zero, List.set_cons_succ]
          refine wpAnyN_tk (i := 46) (v := ?_) rfl (by kernel_rfl) (fun _ _ _ h => h) (Or.inl ⟨by rfl, ?_⟩) (by assumption) ?_
          rotate_left
          · intro w hSw; ((try dsimp only at hSw); go_simp; (try with_reducible rfl))
          simp only [Act.put, List.setIfInBounds_toArray, List.set_cons_zero, List.set_cons_succ]
          refine wpAnyN_tk (i := 47) (v := ?_) rfl (by kernel_rfl) (fun _ _ _ h => h) (Or.inl ⟨by rfl, ?_⟩) (by assumption) ?_
          rotate_left
          · intro w hSw; ((try dsimp only at hSw); go_simp; (try with_reducible rfl))
          simp only [Act.put, List.setIfInBounds_toArray, List.set_cons_zero, List.set_cons_succ]
          refine wpAnyN_tk (i := 48) (v := .int .u8 ((beB x.e 6).toNat : Int)) rfl (by kernel_rfl) (fun _ _ _ h => h) (Or.inl ⟨by rfl, fun w hSw => by (try dsimp only at hSw); go_simp; exact wrap8 (by have := hbE.out 6; simpa using this)⟩) (by assumption) ?_
          simp only [Act.put, List.setIfInBounds_toArray, List.set_cons_zero, List.set_cons_succ]
          refine wpAnyN_tk (i := 49) (v := ?_) rfl (by kernel_rfl) (fun _ _ _ h => h) (Or.inl ⟨by rfl, ?_⟩) (by assumption) ?_
          rotate_left
          · intro w hSw; ((try dsimp only at hSw); go_simp; (try with_reducible rfl))
          simp only [Act.put, List.setIfInBounds_toArray, List.set_cons_zero, List.set_cons_succ]
          refine wpAnyN_tk (i := 50) (v := ?_) rfl (by kernel_rfl) (fun _ _ _ h => h) (Or.inl ⟨by rfl, ?_⟩) (by assumption) ?_
          rotate_left
          · intro w hSw; ((try dsimp only at hSw); go_simp; (try with_reducible rfl))
          simp only [Act.put, List.setIfInBounds_toArray, List.set_cons_zero, List.set_cons_succ]
          refine wpAnyN_tk (i := 51) (v := ?_) rfl (by kernel_rfl) (fun _ _ _ h => h) (Or.inl ⟨by rfl, ?_⟩) (by assumption) ?_
          rotate_left
          · intro w hSw; ((try dsimp only at hSw); go_simp; (try with_reducible rfl))
          simp only [Act.put, List.setIfInBounds_toArray, List.set_cons_zero, List.set_cons_succ]
          refine wpAnyN_tk (i := 52) (v := ?_) rfl (by kernel_rfl) (fun _ _ _ h => h) (Or.inl ⟨by rfl, ?_⟩) (by assumption) ?_
          rotate_left
          · intro w hSw; ((try dsimp only at hSw); go_simp; (try with_reducible rfl))
          simp only [Act.put, List.setIfInBounds_toArray, List.set_cons_zero, List.set_cons_succ]
          refine wpAnyN_tk (i := 53) (v := ?_) rfl (by kernel_rfl) (fun _ _ _ h => h) (Or.inl ⟨by rfl, ?_⟩) (by assumption) ?_
          rotate_left
          · intro w hSw; ((try dsimp only at hSw); go_simp; (try with_reducible rfl))
          simp only [Act.put, List.setIfInBounds_toArray, List.set_cons_zero, List.set_cons_succ]
          refine wpAnyN_tk (i := 54) (v := ?_) rfl (by kernel_rfl) (fun _ _ _ h => h) (Or.inl ⟨by rfl, ?_⟩) (by assumption) ?_
          rotate_left
          · intro w hSw; ((try dsimp only at hSw); go_simp; (try with_reducible rfl))
          simp only [Act.put, List.setIfInBounds_toArray, List.set_cons_zero, List.set_cons_succ]
          refine wpAnyN_tk (i := 55) (v := .int .u8 ((UInt8.ofNat L).toNat : Int)) rfl (by kernel_rfl) (fun _ _ _ h => h) (Or.inl ⟨by rfl, fun w hSw => by (try dsimp only at hSw); go_simp; exact wrap8 hLb.out.1⟩) (by assumption) ?_
          simp only [Act.put, List.setIfInBounds_toArray, List.set_cons_zero, List.set_cons_succ]
          refine wpAnyN_tk (i := 56) (v := ?_) rfl (by kernel_rfl) (fun _ _ _ h => h) (Or.inl ⟨by rfl, ?_⟩) (by assumption) ?_
          rotate_left
          · intro w hSw; ((try dsimp only at hSw); go_simp; (try with_reducible rfl))
          simp only [Act.put, List.setIfInBounds_toArray, List.set_cons_zero, List.set_cons_succ]
          refine wpAnyN_tk (i := 57) (v := ?_) rfl (by kernel_rfl) (fun _ _ _ h => h) (Or.inl ⟨by rfl, ?_⟩) (by assumption) ?_
          rotate_left
          · intro w hSw; ((try dsimp only at hSw); go_simp; (try with_reducible rfl))
          simp only [Act.put, List.setIfInBounds_toArray, List.set_cons_zero, List.set_cons_succ]
          refine wpAnyN_tk (i := 58) (v := ?_) rfl (by kernel_rfl) (fun _ _ _ h => h) (Or.inl ⟨by rfl, ?_⟩) (by assumption) ?_
          rotate_left
          · intro w hSw; ((try dsimp only at hSw); go_simp; (try with_reducible rfl))
          simp only [Act.put, List.setIfInBounds_toArray, List.set_cons_zero, List.set_cons_succ]
          refine wpAnyN_tk (i := 59) (v := ?_) rfl (by kernel_rfl) (fun _ _ _ h => h) (Or.inl ⟨by rfl, ?_⟩) (by assumption) ?_
          rotate_left
          · intro w hSw; ((try dsimp only at hSw); go_simp; (try with_reducible rfl))
          simp only [Act.put, List.setIfInBounds_toArray, List.set_cons_zero, List.set_cons_succ]
          refine wpAnyN_tk (i := 60) (v := ?_) rfl (by kernel_rfl) (fun _ _ _ h => h) (Or.inl ⟨by rfl, ?_⟩) (by assumption) ?_
          rotate_left
          · intro w hSw; ((try dsimp only at hSw); go_simp; (try with_reducible rfl))
          simp only [Act.put, List.setIfInBounds_toArray, List.set_cons_zero, List.set_cons_succ]
          refine wpAnyN_tk (i := 61) (v := ?_) rfl (by kernel_rfl) (fun _ _ _ h => h) (Or.inl ⟨by rfl, ?_⟩) (by assumption) ?_
          rotate_left
          · intro w hSw; ((try dsimp only at hSw); go_simp; (try with_reducible rfl))
          simp only [Act.put, List.setIfInBounds_toArray, List.set_cons_zero, List.set_cons_succ]
          refine wpAnyN_tk (i := 62) (v := ?_) rfl (by kernel_rfl) (fun _ _ _ h => h) (Or.inl ⟨by rfl, ?_⟩) (by assumption) ?_
          rotate_left
          · intro w hSw; ((try dsimp only at hSw); go_simp; (try with_reducible rfl))
          simp only [Act.put, List.setIfInBounds_toArray, List.set_cons_zero, List.set_cons_succ]
          refine wpAnyN_tk (i := 63) (v := .int .u8 ((UInt8.ofNat (L / 256)).toNat : Int)) rfl (by kernel_rfl) (fun _ _ _ h => h) (Or.inl ⟨by rfl, fun w hSw => by (try dsimp only at hSw); go_simp; exact wrap8 hLb.out.2⟩) (by assumption) ?_
          simp only [Act.put, List.setIfInBounds_toArray, List.set_cons_zero, List.set_cons_succ]
          refine wpAnyN_tk (i := 67) (v := ?_) rfl (by kernel_rfl) (fun _ _ _ h => h) (Or.inl ⟨by rfl, ?_⟩) (by assumption) ?_
          rotate_left
          · intro w hSw; ((try dsimp only at hSw); go_simp; (try with_reducible rfl))
          simp only [Act.put, List.setIfInBounds_toArray, List.set_cons_zero, List.set_cons_succ]
          refine wpAnyN_tk (i := 68) (v := ?_) rfl (by kernel_rfl) (fun _ _ _ h => h) (Or.inl ⟨by rfl, ?_⟩) (by assumption) ?_
          rotate_left
          · intro w hSw; ((try dsimp only at hSw); go_simp; (try with_reducible rfl))
          simp only [Act.put, List.setIfInBounds_toArray, List.set_cons_zero, List.set_cons_succ]
          refine wpAnyN_tk (i := 69) (v := ?_) rfl (by kernel_rfl) (fun _ _ _ h => h) (Or.inl ⟨by rfl, ?_⟩) (by assumption) ?_
          rotate_left
          · intro w hSw; ((try dsimp only at hSw); go_simp; (try with_reducible rfl))
          simp only [Act.put, List.setIfInBounds_toArray, List.set_cons_zero, List.set_cons_succ]
          refine wpAnyN_tk (i := 70) (v := ?_) rfl (by kernel_rfl) (fun _ _ _ h => h) (Or.inl ⟨by rfl, ?_⟩) (by assumption) ?_
          rotate_left
          · intro w hSw; ((try dsimp only at hSw); go_simp; (try with_reducible rfl))
          simp only [Act.put, List.setIfInBounds_toArray, List.set_cons_zero, List.set_cons_succ]
          refine wpAnyN_tk (i := 71) (v := ?_) rfl (by kernel_rfl) (fun _ _ _ h => h) (Or.inl ⟨by rfl, ?_⟩) (by assumption) ?_
          rotate_left
          · intro w hSw; ((try dsimp only at hSw); go_simp; (try with_reducible rfl))
          simp only [Act.put, List.setIfInBounds_toArray, List.set_cons_zero, List.set_cons_succ]
          refine wpAnyN_tk (i := 72) (v := str x.b) rfl (by kernel_rfl) (fun _ _ _ h => h) (Or.inl ⟨by rfl, fun w hSw => ?_⟩) (by assumption) ?_
          · refine (exec_convert 28 9 (.tmp 112) rfl ?_); exact hSw.2.2
          simp only [Act.put, List.setIfInBounds_toArray, List.set_cons_zero, List.set_cons_succ]
          refine wpAnyN_one (i := 64) rfl (by kernel_rfl) ?_
          apply lit_buildSlice #[(0, .int .u8 ((beB x.e 0).toNat : Int)), (1, .int .u8 ((beB x.e 1).toNat : Int)), (2, .int .u8 ((beB x.e 2).toNat : Int)), (3, .int .u8 ((beB x.e 3).toNat : Int)), (4, .int .u8 ((beB x.e 4).toNat : Int)), (5, .int .u8 ((beB x.e 5).toNat : Int)), (6, .int .u8 ((beB x.e 6).toNat : Int)), (7, .int .u8 ((UInt8.ofNat L).toNat : Int)), (8, .int .u8 ((UInt8.ofNat (L / 256)).toNat : Int))] rfl
          · exact hbs.out
          simp only [Act.put, List.setIfInBounds_toArray, List.set_cons_zero, List.set_cons_succ]
          go_wp2_with fail
          refine ⟨fun _ => hS2.out, ?_⟩
          refine wpAnyN_one (i := 65) rfl (by kernel_rfl) ?_
          apply lit_convert
          · exact hcRH.out
          simp only [Act.put, List.setIfInBounds_toArray, List.set_cons_zero, List.set_cons_succ]
          go_wp2_with fail
          refine ⟨fun _ => hS2.out, ?_⟩
          refine wpAnyN_one (i := 66) rfl (by kernel_rfl) ?_
          apply lit_add
          · exact had1.out
          simp only [Act.put, List.setIfInBounds_toArray, List.set_cons_zero, List.set_cons_succ]
          go_wp2_with fail
          refine ⟨fun _ => hS2.out, ?_⟩
          refine wpAnyN_one (i := 73) rfl (by kernel_rfl) ?_
          apply lit_add
          · exact had2.out
          simp only [Act.put, List.setIfInBounds_toArray, List.set_cons_zero, List.set_cons_succ]
          go_wp2_with fail
          refine ⟨fun _ => hS2.out, ?_⟩
          refine wpAnyN_tk (i := 74) (v := ?_) rfl (by kernel_rfl) (fun _ _ _ h => h) (Or.inl ⟨by rfl, ?_⟩) (by assumption) ?_
          rotate_left
          · intro w hSw; ((try dsimp only at hSw); go_simp; (try with_reducible rfl))
          simp only [Act.put, List.setIfInBounds_toArray, List.set_cons_zero, List.set_cons_succ]
          refine wpAnyN_done (by kernel_rfl) ?_ _
          go_wp2_with fail
          go_roundw
          case rel => exact ⟨k + 1, _, by omega, by go_num, (by rw [← hR2'.out, List.append_assoc]), hF.out.2, hF.out.1⟩
          case measure => simp [intOf]; omega
        · obtain rfl : k = N := by omega
          have hfin := hidden (show R0 ++ (ls.take k).flatMap lineText = textM p c ls by
            have e1 : ls.take k = ls := List.take_of_length_le (by rw [hNH.out]; omega)
            rw [e1, ← hR0H.out, ← hNH.out]; rfl)
          obtain ⟨R9, hR9⟩ : ∃ R9, R0 ++ (ls.take k).flatMap lineText = R9 := ⟨_, rfl⟩
          rw [hR9] at hfin ⊢
          clear hR9
          go_wp2_with fail
          go_ret
          exact ⟨_, oj, rfl, hst, by rw [← hfin.out]; rfl⟩
end
end Go.Proofs.YtfgggkheadfiaaaR
/- Contracts of the laws of layer 9: does, text. -/
namespace Go.Proofs.YtfgggkheadfiaaaR
open Go Go.RowKit
attribute [local go_sem ↓] Go.wp_at_zero Go.wp_at_succ
/-- An act as a value. -/
def actV (a : ActM) (lv : Value) : Value := .agg #[.int .u8 (a.k : Int), .int .u64 (a.e.toNat : Int), lv]
theorem Wrote.zero {S A B D ps pd nb : Nat} {Q : StoreM × Int} {v : Value} {w' : World} {o' : Own} (h : Wrote S A B D ps pd 0 nb Q v w' o') : v = .int .i64 Q.2 ∧ StoreAt w' o' S A B D ps pd 0 Q.1 := ⟨h.1, h.2.low (Nat.zero_le _)⟩
theorem flatMap_line_le : ∀ (ls : List LineM), (∀ x ∈ ls, x.b.length ≤ 4096) → (ls.flatMap lineText).length ≤ 4105 * ls.length
  | [], _ => by simp
  | x :: r, h => by
    have h1 := h x (by simp)
    have h2 := flatMap_line_le r (fun y hy => h y (List.mem_cons_of_mem _ hy))
    have h3 : (lineText x).length = 9 + x.b.length := by simp [lineText, loHi]; omega
    rw [List.flatMap_cons, List.length_append, List.length_cons]; omega
theorem KOk.text {k : KeptM} (h : KOk k) : (k.lines.flatMap lineText).length ≤ 1300000 := by
  have h1 := flatMap_line_le k.lines h.b
  have h2 := h.n
  omega
section
variable {w : World} {o : Own} {S A B D ps pd base K H : Nat} {s : StoreM}
set_option maxRecDepth 100000 in
set_option maxHeartbeats 3200000 in
theorem text_any (h : StoreAt w o S A B D ps pd base s) (hk : KOk s.kept) :
    Calls Try.prog 58 #[.pointer (some ⟨ps, 0, none⟩)] w (Ret Nobody w o fun v _ _ => v = str (textM s.kept.promised s.kept.current s.kept.lines)) := by
  have hkp := hidden (skept_any h hk.small)
  have hkH := hidden hk
  clear h hk
  go_enter Try.func58, Try.ntmps58
  go_wp2_with fail
  refine hkp.out.mono ?_; rintro e w1 ⟨v1, o1, rfl, hs1, lv, rfl, hl, -⟩
  clear hkp
  obtain ⟨la, lc, rfl⟩ := hl.form
  unfold keptV
  have hal := hidden (run_alloc_zero (P := Try.prog) w1 108 _ zc108)
  have hsw := setCells_alloc_whole w1 #[.int .u64 0, .int .u64 0, .slice none 0 0] 108 [.int .u64 (s.kept.promised.toNat : Int), .int .u64 (s.kept.current.toNat : Int), .slice la s.kept.lines.length lc] rfl
  obtain ⟨hso, -⟩ := run_store_agg (P := Try.prog) (ty := 108) (vs := [.int .u64 (s.kept.promised.toNat : Int), .int .u64 (s.kept.current.toNat : Int), .slice la s.kept.lines.length lc]) (heap_alloc_new w1 (.cells [.int .u64 0, .int .u64 0, .slice none 0 0].toArray 108)) rfl (by kernel_rfl) rfl
  rw [hsw] at hso
  have hsoH := hidden hso
  have s2 := (Step.refl Nobody w1 o1).alloc (.cells [.int .u64 (s.kept.promised.toNat : Int), .int .u64 (s.kept.current.toNat : Int), .slice la s.kept.lines.length lc].toArray 108) (0, 0)
  have b2 : (w1.alloc (.cells [.int .u64 (s.kept.promised.toNat : Int), .int .u64 (s.kept.current.toNat : Int), .slice la s.kept.lines.length lc].toArray 108)).heap[w1.heap.size]? = some (.cells [.int .u64 (s.kept.promised.toNat : Int), .int .u64 (s.kept.current.toNat : Int), .slice la s.kept.lines.length lc].toArray 108 (0, 0)) := heap_alloc_new w1 _
  have c0 := cell_of_block b2 0
  have c1 := cell_of_block b2 1
  have c2 := cell_of_block b2 2
  simp only [List.getElem?_cons_zero, List.getElem?_cons_succ] at c0 c1 c2
  have htx := hidden (rtext9_any (p := s.kept.promised) (c := s.kept.current) (hl.step s2 (fun h => h)) (by have := hkH.out.n; omega) hkH.out.text)
  have hst := hidden (hs1.trans s2)
  obtain ⟨W2, hW2⟩ : ∃ W2, w1.alloc (.cells [.int .u64 (s.kept.promised.toNat : Int), .int .u64 (s.kept.current.toNat : Int), .slice la s.kept.lines.length lc].toArray 108) = W2 := ⟨_, rfl⟩
  rw [hW2] at hsoH c0 c1 c2 htx hst
  clear hsw hso s2 b2 hs1 hl hW2
  go_wp2_with (first
    | ((with_reducible apply lit_alloc); exact hal.out; simp only [Act.put, List.setIfInBounds_toArray, List.set_cons_zero, List.set_cons_succ])
    | ((with_reducible apply lit_store); exact hsoH.out; simp only [Act.put]))
  refine htx.out.mono ?_; rintro e w3 ⟨v3, o3, rfl, hs3, rfl⟩
  go_wp2_with fail
  go_ret
  exact ⟨_, o3, rfl, hst.out.trans hs3, rfl⟩
set_option maxRecDepth 100000 in
set_option maxHeartbeats 3200000 in
theorem does_any (ht : Tags S A B D) (h : StoreAt w o S A B D ps pd 0 s) (hg : SG K H s) (hk : KOk s.kept) (a : ActM) (hk5 : a.k < 256) {lv : Value} (hl : Lines w o 0 lv a.ls) (hn : a.ls.length ≤ 1000) :
    Calls Try.prog 56 #[.pointer (some ⟨ps, 0, none⟩), actV a lv] w (Ret (In4 S A B D) w o fun v w' o' => v = .int .i64 (s.act a).2 ∧ StoreAt w' o' S A B D ps pd 0 (s.act a).1) := by
  obtain ⟨la, lc, rfl⟩ := hl.form
  obtain ⟨n, hn0⟩ : ∃ n, a.ls.length = n := ⟨_, rfl⟩
  have hrow : s.d.row.length ≤ 600000 := by rw [hg.row]; simp
  have hpg : 1 ≤ s.pages ∧ s.pages ≤ 4096 := by rw [hg.pg]; have h1 := hg.h4; have h2 := hg.h200; omega
  unfold actV
  have s1 := (Step.refl Nobody w o).alloc (.cells #[.int .u8 (a.k : Int), .int .u64 (a.e.toNat : Int), .slice la a.ls.length lc] 99) (0, 0)
  have b1 : (w.alloc (.cells #[.int .u8 (a.k : Int), .int .u64 (a.e.toNat : Int), .slice la a.ls.length lc] 99)).heap[w.heap.size]? = some (.cells [.int .u8 (a.k : Int), .int .u64 (a.e.toNat : Int), .slice la a.ls.length lc].toArray 99 (0, 0)) := heap_alloc_new w _
  have c0 := cell_of_block b1 0
  have c1 := cell_of_block b1 1
  have c2 := cell_of_block b1 2
  simp only [List.getElem?_cons_zero, List.getElem?_cons_succ] at c0 c1 c2
  have h1 := h.step0 s1
  have hl1 := hl.step s1 (fun h => h)
  have hst := hidden (s1.mono (T' := In4 S A B D) (fun _ h => h.elim))
  have hpr := hidden (spromise_any ht h1 hrow hpg hk.small a.e)
  have had := hidden (sadopt_any ht h1 hrow hpg a.e _ a.ls hl1 hn (fun hok => small_of (adoptOk_small hok).1 (adoptOk_small hok).2))
  have hap := hidden (sappend_any ht h1 hrow hpg _ a.ls hl1 hn (by have := hk.n; omega) (fun hok => by
    obtain ⟨q1, q2⟩ := appendOk_small hok
    refine ⟨small_of (by omega) q2, hk.small, small_of (by rw [List.length_append]; omega) fun x hx => ?_⟩
    rcases List.mem_append.1 hx with hx | hx
    · exact hk.b x hx
    · exact q2 x hx))
  have h1H := hidden h1
  obtain ⟨W1, hW1⟩ : ∃ W1, w.alloc (.cells #[.int .u8 (a.k : Int), .int .u64 (a.e.toNat : Int), .slice la a.ls.length lc] 99) = W1 := ⟨_, rfl⟩
  rw [hW1] at c0 c1 c2 hst hpr had hap h1H
  have hW1H := hidden hW1
  clear s1 b1 h1 hl1 hW1 hl h hg hk hrow hpg ht hn
  obtain ⟨Q, hQ⟩ : ∃ Q, s.act a = Q := ⟨_, rfl⟩
  rw [hQ]
  unfold StoreM.act at hQ
  rw [hn0] at c2 had hap hW1H ⊢
  obtain ⟨kk, hkk⟩ : ∃ kk, a.k = kk := ⟨_, rfl⟩
  rw [hkk] at hQ c0 hW1H hk5 ⊢
  clear hkk hn0
  by_cases h0 : kk % 5 = 0
  · have hkI : (kk : Int) % 5 = 0 := by omega
    rw [if_pos h0] at hQ
    rw [hQ] at hpr
    clear h0 hQ had hap
    go_enter Try.func56, Try.ntmps56
    go_wp2_with fail
    rw [hW1H.out]
    go_wp2_with fail
    refine hpr.out.mono ?_; rintro e w3 ⟨v3, o3, rfl, hs3, hw3⟩
    obtain ⟨rfl, hs⟩ := hw3.zero
    have hF := hidden (And.intro (hst.out.trans hs3) hs)
    clear hs hs3 hw3 hpr
    go_wp2_with fail
    go_ret
    exact ⟨_, o3, rfl, hF.out.1, rfl, hF.out.2⟩
  · rw [if_neg h0] at hQ
    by_cases h1 : kk % 5 = 1
    · have hkI : (kk : Int) % 5 = 1 := by omega
      rw [if_pos h1] at hQ
      rw [hQ] at had
      clear h0 h1 hQ hpr hap
      go_enter Try.func56, Try.ntmps56
      go_wp2_with fail
      rw [hW1H.out]
      go_wp2_with fail
      refine had.out.mono ?_; rintro e w3 ⟨v3, o3, rfl, hs3, hw3⟩
      obtain ⟨rfl, hs⟩ := hw3.zero
      have hF := hidden (And.intro (hst.out.trans hs3) hs)
      clear hs hs3 hw3 had
      go_wp2_with fail
      go_ret
      exact ⟨_, o3, rfl, hF.out.1, rfl, hF.out.2⟩
    · rw [if_neg h1] at hQ
      by_cases h4 : kk % 5 = 4
      · have hkI : (kk : Int) % 5 = 4 := by omega
        rw [if_pos h4] at hQ
        subst hQ
        clear h0 h1 h4 hpr hap had
        go_enter Try.func56, Try.ntmps56
        go_wp2_with fail
        rw [hW1H.out]
        go_wp2_with fail
        go_ret
        exact ⟨_, _, rfl, hst.out, rfl, h1H.out⟩
      · rw [if_neg h4] at hQ
        rw [hQ] at hap
        have h23 : kk % 5 = 2 ∨ kk % 5 = 3 := by omega
        clear h0 h1 h4 hQ hpr had
        rcases h23 with h2 | h2
        all_goals
          have hkI : (kk : Int) % 5 = ((kk % 5 : Nat) : Int) := by omega
          rw [h2] at hkI
          clear h2
          go_enter Try.func56, Try.ntmps56
          go_wp2_with fail
          rw [hW1H.out]
          go_wp2_with fail
          refine hap.out.mono ?_; rintro e w3 ⟨v3, o3, rfl, hs3, hw3⟩
          obtain ⟨rfl, hs⟩ := hw3.zero
          have hF := hidden (And.intro (hst.out.trans hs3) hs)
          clear hs hs3 hw3 hap
          go_wp2_with fail
          go_ret
          exact ⟨_, o3, rfl, hF.out.1, rfl, hF.out.2⟩
end
end Go.Proofs.YtfgggkheadfiaaaR
/- Plain laws: a store whose power goes and comes again with nothing under way; contract of Open for a store that the disk holds. -/
namespace Go.Proofs.YtfgggkheadfiaaaR
open Go Go.RowKit

theorem restart_still {d : DiskM} (hd : d.dead = false) (hr : d.row = []) (fates : List Int) : d.kill.restart fates = { d with left := -1 } := by
  obtain ⟨p, r, l, dd⟩ := d
  simp only at hd hr
  subst hd hr
  rfl
theorem restart_still' {d : DiskM} (hd : d.dead = false) (hr : d.row = []) (fates : List Int) : d.restart fates = { d with left := -1 } := by
  obtain ⟨p, r, l, dd⟩ := d
  simp only at hd hr
  subst hd hr
  rfl
theorem LogM.Good.relit {K : Nat} {l : LogM} {d : DiskM} (h : LogM.Good K (l, d)) (n : Int) (hn : -1 ≤ n ∧ n ≤ 9223372036854775807) : LogM.Good K (l, { d with left := n }) := by
  obtain ⟨h1, h2, ⟨h3, h4, h5, h6⟩, h7⟩ := h
  refine ⟨h1, h2, ⟨h3, h4, h5, ?_⟩, h7⟩
  obtain ⟨q1, q2, q3, q4, q5, q6⟩ := h6
  exact ⟨q1, q2, q3, q4, hn.1, hn.2⟩
theorem SG.relit {K H : Nat} {s : StoreM} (h : SG K H s) (n : Int) (hn : -1 ≤ n ∧ n ≤ 9223372036854775807) : SG K H { s with d := { s.d with left := n } } :=
  ⟨h.live, LogM.Good.relit h.gc n hn, LogM.Good.relit h.go n hn, h.pg, h.h4, h.h200, h.len, h.nc, h.no, h.fst, h.rc, h.ro, h.ageK⟩
/-- Open, on a disk that holds the store t. -/
theorem opens_any {w : World} {o : Own} {D pd K H : Nat} {t : StoreM} (Mx : Nat) (hDx : D ≤ Mx) (hD0 : D ≠ 0) (hg : SG K H t) (hK : K < 65536) (hn : t.d.pages.length ≤ 400) (hD : DiskAt w o D pd t.d) :
    Calls Try.prog 53 #[.pointer (some ⟨pd, 0, none⟩)] w (Ret (Above Mx) w o fun v w' o' => ∃ ps, v = .tuple #[.pointer (some ⟨ps, 0, none⟩), .int .i64 0] ∧ StoreAt w' o' (Mx + 1) (Mx + 2) (Mx + 3) D ps pd 0 t) := by
  obtain ⟨g0, g1, k0, k1, h0, h1, he⟩ := hg.reopen
  have hnew := hg.newest hK
  have h4 := hg.h4
  have hl := hg.len
  refine (sopen_any (S := Mx + 1) (A := Mx + 2) (B := Mx + 3) (Y := Mx + 4) (by simp; omega) hD hg.dd (by rw [hg.row]; simp) (by omega) hn hl hnew.1 hnew.2 h0 h1).mono ?_
  rintro e w' ⟨v, o', rfl, hs, ps, -, rfl, hat⟩
  rw [he] at hat
  exact ⟨_, o', rfl, hs.mono (fun k hk => by rcases hk with rfl | rfl | rfl <;> (show Mx < _; omega)), ps, rfl, hat.low (Nat.zero_le _)⟩
theorem tags_new {Mx D : Nat} (hDx : D ≤ Mx) (hD0 : D ≠ 0) : Tags (Mx + 1) (Mx + 2) (Mx + 3) D := ⟨by omega, by omega, by omega, hD0, by omega, by omega, by omega, by omega, by omega, by omega⟩
theorem in4_above {M Mx D : Nat} (hM : M ≤ Mx) (hD : M < D) : ∀ k, In4 (Mx + 1) (Mx + 2) (Mx + 3) D k → Above M k := fun k hk => by
  rcases hk with rfl | rfl | rfl | rfl <;> (show M < _; omega)
end Go.Proofs.YtfgggkheadfiaaaR
/- Contracts of the laws of layer 9: line; the acts as a law takes them. -/
namespace Go.Proofs.YtfgggkheadfiaaaR
open Go Go.RowKit
attribute [local go_sem ↓] Go.wp_at_zero Go.wp_at_succ
set_option maxRecDepth 100000 in
set_option maxHeartbeats 1600000 in
theorem line_any (w : World) (o : Own) (e : BitVec 64) (s : List UInt8) (hs : s.length ≤ 1000000) :
    Calls Try.prog 63 #[.int .u64 (e.toNat : Int), str s] w (Ret Nobody w o fun v w' o' => Lines w' o' 0 v [⟨e, s⟩]) := by
  obtain ⟨c, w1, o1, hcv, hst, hb⟩ := conv_str_bytes w o s hs
  have hbs := buildSlice93 w1 (e.toNat : Int) (.slice (some ⟨w.heap.size, 0, none⟩) s.length c)
  have s2 := (Step.refl Nobody w1 o1).alloc (.cells [.int .u64 (e.toNat : Int), .slice (some ⟨w.heap.size, 0, none⟩) s.length c].toArray 113) (0, 0)
  have hF := hidden (show Lines (w1.alloc (.cells [.int .u64 (e.toNat : Int), .slice (some ⟨w.heap.size, 0, none⟩) s.length c].toArray 113)) (tagAt o1 w1.heap.size (0, 0)) 0 (.slice (some ⟨w1.heap.size, 0, none⟩) 1 1) [⟨e, s⟩] from
    ⟨_, .inr ⟨w1.heap.size, 0, 1, rfl, Nat.le_refl _, by simp [maxLen], by rw [tagAt_same], by simp, range_whole (heap_alloc_new w1 _)⟩, LnC.single ⟨e, s⟩ (hb.step s2 (fun h => h)), Fresh.zero _, fun u _ => Fresh.zero u⟩)
  have hcvH := hidden hcv
  have hbsH := hidden hbs
  have hstF := hidden (hst.trans s2)
  clear hcv hbs hst s2 hb
  go_enter Try.func63, Try.ntmps63
  go_wp2_with (first
    | ((with_reducible apply lit_convert); exact hcvH.out; simp only [Act.put, List.setIfInBounds_toArray, List.set_cons_zero, List.set_cons_succ])
    | ((with_reducible apply lit_buildSlice #[(0, .agg #[.int .u64 (e.toNat : Int), .slice (some ⟨w.heap.size, 0, none⟩) s.length c])] rfl); exact hbsH.out; simp only [Act.put, List.setIfInBounds_toArray, List.set_cons_zero, List.set_cons_succ]))
  go_ret
  exact ⟨_, _, rfl, hstF.out, hF.out⟩
theorem StoreAt.disk {w : World} {o : Own} {S A B D ps pd base : Nat} {s : StoreM} (h : StoreAt w o S A B D ps pd base s) : DiskAt w o D pd s.d := by
  obtain ⟨X, Y, pa, pb, k, kv, -, -, -, -, -, hd⟩ := h; exact hd
/-- While the power stays: an act that may be, and fits. -/
theorem act_ok {K H n : Nat} {s : StoreM} (h : SG K H s) (hl : s.d.left < 0) (hK : K + 600 < 65536) (hk : KOk s.kept) (a : ActM) (h0 : (s.kept.next a).2 = 0) (hn : n / 2 = H) (hf : (s.kept.next a).1.fits n = true) :
    ∃ s', s.act a = (s', 0) ∧ SG (K + 3) H s' ∧ s'.kept = (s.kept.next a).1 ∧ s'.d.pages.length = s.d.pages.length ∧ s'.d.left < 0 := by
  rcases StoreM.act_cases h hK hk a with ⟨h1, -⟩ | ⟨-, s', h1, h2, h3, h4, h5⟩ | ⟨-, -, h1⟩ | ⟨-, -, h1, -⟩
  · omega
  · exact ⟨s', h1, h2, h3, h4, h5 hl⟩
  · rw [h1 n hn] at hf; cases hf
  · omega
theorem act_no {K H : Nat} {s : StoreM} (h : SG K H s) (hK : K + 600 < 65536) (hk : KOk s.kept) (a : ActM) (h1 : (s.kept.next a).2 = 1) : s.act a = (s, 1) := by
  rcases StoreM.act_cases h hK hk a with ⟨-, -, h2⟩ | ⟨h2, -⟩ | ⟨h2, -⟩ | ⟨h2, -⟩
  · exact h2
  · omega
  · omega
  · omega
section
variable {w : World} {o : Own} {S A B D ps pd K H : Nat} {s s' : StoreM} {r : Int}
theorem SG.rowOk (h : SG K H s) : s.d.row.length ≤ 600000 := by rw [h.row]; simp
theorem SG.pgOk (h : SG K H s) : 1 ≤ s.pages ∧ s.pages ≤ 4096 := by rw [h.pg]; have h1 := h.h4; have h2 := h.h200; omega
theorem promise_is (ht : Tags S A B D) (h : StoreAt w o S A B D ps pd 0 s) (hg : SG K H s) (hk : KOk s.kept) (e : BitVec 64) (he : s.promise e = (s', r)) :
    Calls Try.prog 61 #[.pointer (some ⟨ps, 0, none⟩), .int .u64 (e.toNat : Int)] w (Ret (In4 S A B D) w o fun v w' o' => v = .int .i64 r ∧ StoreAt w' o' S A B D ps pd 0 s') := by
  refine (spromise_any ht h hg.rowOk hg.pgOk hk.small e).mono ?_
  rintro e1 w1 ⟨v, o1, rfl, hs, hw⟩
  rw [he] at hw
  exact ⟨v, o1, rfl, hs, hw.zero⟩
theorem adopt_is (ht : Tags S A B D) (h : StoreAt w o S A B D ps pd 0 s) (hg : SG K H s) (e : BitVec 64) {lv : Value} {ls : List LineM} {lb : Nat} (hl : Lines w o lb lv ls) (hn : ls.length ≤ 1000) (he : s.adopt e ls = (s', r)) :
    Calls Try.prog 62 #[.pointer (some ⟨ps, 0, none⟩), .int .u64 (e.toNat : Int), lv] w (Ret (In4 S A B D) w o fun v w' o' => v = .int .i64 r ∧ StoreAt w' o' S A B D ps pd 0 s') := by
  refine (sadopt_any ht h hg.rowOk hg.pgOk e lv ls hl hn (fun hok => small_of (adoptOk_small hok).1 (adoptOk_small hok).2)).mono ?_
  rintro e1 w1 ⟨v, o1, rfl, hs, hw⟩
  rw [he] at hw
  exact ⟨v, o1, rfl, hs, hw.zero⟩
theorem append_is (ht : Tags S A B D) (h : StoreAt w o S A B D ps pd 0 s) (hg : SG K H s) (hk : KOk s.kept) {lv : Value} {ls : List LineM} {lb : Nat} (hl : Lines w o lb lv ls) (hn : ls.length ≤ 1000) (he : s.append ls = (s', r)) :
    Calls Try.prog 65 #[.pointer (some ⟨ps, 0, none⟩), lv] w (Ret (In4 S A B D) w o fun v w' o' => v = .int .i64 r ∧ StoreAt w' o' S A B D ps pd 0 s') := by
  refine (sappend_any ht h hg.rowOk hg.pgOk lv ls hl hn (by have := hk.n; omega) (fun hok => by
    obtain ⟨q1, q2⟩ := appendOk_small hok
    refine ⟨small_of (by omega) q2, hk.small, small_of (by rw [List.length_append]; omega) fun x hx => ?_⟩
    rcases List.mem_append.1 hx with hx | hx
    · exact hk.b x hx
    · exact q2 x hx)).mono ?_
  rintro e1 w1 ⟨v, o1, rfl, hs, hw⟩
  rw [he] at hw
  exact ⟨v, o1, rfl, hs, hw.zero⟩
end
end Go.Proofs.YtfgggkheadfiaaaR
/- Contract of the laws of layer 9: keeps, the example that each of them ends with. -/
namespace Go.Proofs.YtfgggkheadfiaaaR
open Go Go.RowKit
attribute [local go_sem ↓] Go.wp_at_zero Go.wp_at_succ
def keptEx : KeptM := ⟨3#64, 3#64, [⟨1#64, [97]⟩, ⟨3#64, [98]⟩]⟩
theorem act_promise (s : StoreM) (e : BitVec 64) : s.act ⟨0, e, []⟩ = s.promise e := rfl
theorem act_adopt (s : StoreM) (e : BitVec 64) (ls : List LineM) : s.act ⟨1, e, ls⟩ = s.adopt e ls := rfl
theorem act_append (s : StoreM) (e : BitVec 64) (ls : List LineM) : s.act ⟨2, e, ls⟩ = s.append ls := rfl
theorem keeps_plain : ∃ s1 s2 s3, (newS 16).promise 3#64 = (s1, 0) ∧ s1.promise 3#64 = (s1, 1) ∧ s1.adopt 3#64 [⟨1#64, [97]⟩] = (s2, 0) ∧ s2.append [⟨1#64, [98]⟩] = (s2, 1) ∧ s2.append [⟨3#64, [98]⟩] = (s3, 0) ∧
    (SG 3 8 s1 ∧ KOk s1.kept) ∧ (SG 6 8 s2 ∧ KOk s2.kept) ∧ SG 9 8 s3 ∧ s3.kept = keptEx ∧ s3.d.pages.length = 16 := by
  have g0 := newS_sg (n := 16) (by omega) (by omega)
  obtain ⟨s1, e1, g1, k1, p1, l1⟩ := act_ok (n := 16) g0 (by show (-1 : Int) < 0; omega) (by omega) (s := newS 16) KOk.zero ⟨0, 3#64, []⟩ (by decide +kernel) rfl (by decide +kernel)
  have q1 : s1.kept = ⟨3#64, 0, []⟩ := by rw [k1]; kernel_rfl
  have o1 : KOk s1.kept := by rw [q1]; exact ⟨by simp, by simp⟩
  have f1 := act_no g1 (by omega) o1 ⟨0, 3#64, []⟩ (by rw [q1]; decide +kernel)
  obtain ⟨s2, e2, g2, k2, p2, l2⟩ := act_ok (n := 16) g1 l1 (by omega) o1 ⟨1, 3#64, [⟨1#64, [97]⟩]⟩ (by rw [q1]; decide +kernel) rfl (by rw [q1]; decide +kernel)
  have q2 : s2.kept = ⟨3#64, 3#64, [⟨1#64, [97]⟩]⟩ := by rw [k2, q1]; kernel_rfl
  have o2 : KOk s2.kept := by rw [q2]; exact ⟨by simp, by simp⟩
  have f2 := act_no g2 (by omega) o2 ⟨2, 0#64, [⟨1#64, [98]⟩]⟩ (by rw [q2]; decide +kernel)
  obtain ⟨s3, e3, g3, k3, p3, l3⟩ := act_ok (n := 16) g2 l2 (by omega) o2 ⟨2, 0#64, [⟨3#64, [98]⟩]⟩ (by rw [q2]; decide +kernel) rfl (by rw [q2]; decide +kernel)
  have q3 : s3.kept = keptEx := by rw [k3, q2]; kernel_rfl
  rw [act_promise] at e1 f1
  rw [act_adopt] at e2
  rw [act_append] at f2 e3
  exact ⟨s1, s2, s3, e1, f1, e2, f2, e3, ⟨g1, o1⟩, ⟨g2, o2⟩, g3, q3, by rw [p3, p2, p1]; simp [newS, DiskM.new]⟩
theorem u64_3 : ((3#64).toNat : Int) = 3 := rfl
theorem u64_1 : ((1#64).toNat : Int) = 1 := rfl
set_option maxRecDepth 100000 in
set_option maxHeartbeats 6400000 in
theorem keeps_any (w : World) (o : Own) : Calls Try.prog 54 #[] w (Ret Nobody w o fun v _ _ => v = .bool true) := by
  obtain ⟨M, -, hM⟩ := tag_bound o 0 w.heap.size
  have nn : ∀ k, ¬ Nobody k := fun _ h => h
  have hT0 : ¬ Above M 0 := fun h => by change M < 0 at h; omega
  obtain ⟨D, hD⟩ : ∃ D, D = M + 1 := ⟨_, rfl⟩
  have hD0 : D ≠ 0 := by omega
  obtain ⟨s1, s2, s3, e1, e2, e3, e4, e5, ⟨g1, k1⟩, ⟨g2, k2⟩, g3, q3, p3⟩ := keeps_plain
  have ht := tags_new (Mx := D) (D := D) (Nat.le_refl _) hD0
  have h4 := in4_above (M := M) (Mx := D) (D := D) (by omega) (by omega)
  have nI0 := in4_0 ht
  have hnew := new_ok 16 w o D (by omega) (by omega)
  have k3 : KOk s3.kept := by rw [q3]; exact ⟨by simp [keptEx], by simp [keptEx]⟩
  go_enter Try.func54, Try.ntmps54
  go_wp2_with fail
  refine hnew.mono ?_; rintro e W1 ⟨v, o1, rfl, hs, pd, -, rfl, hd⟩
  have hst := hs.above0 (M := M)
  have hop := opens_any D (Nat.le_refl _) hD0 (newS_sg (n := 16) (by omega) (by omega)) (by omega) (by simp [newS, DiskM.new]) (t := newS 16) hd
  clear hnew hs hd
  go_wp2_with fail
  refine hop.mono ?_; rintro e W2 ⟨v, o2, rfl, hs, ps, rfl, ha⟩
  have hst := hst.trans (hs.mono (fun k (hk : D < k) => (show M < k by omega)))
  have hc := promise_is ht ha (newS_sg (n := 16) (by omega) (by omega)) KOk.zero 3#64 e1
  rw [u64_3] at hc
  clear hop hs ha
  go_wp2_with fail
  refine hc.mono ?_; rintro e W3 ⟨v, o3, rfl, hs, rfl, ha⟩
  have hst := hst.trans (hs.mono h4)
  have hc := promise_is ht ha g1 k1 3#64 e2
  rw [u64_3] at hc
  clear hs ha
  go_wp2_with fail
  refine hc.mono ?_; rintro e W4 ⟨v, o4, rfl, hs, rfl, ha⟩
  have hst := hst.trans (hs.mono h4)
  have hln := line_any W4 o4 1#64 [97] (by simp)
  rw [u64_1] at hln
  have hln : Calls Try.prog 63 #[.int .u64 1, .string ⟨#[97]⟩] W4 (Ret Nobody W4 o4 fun v w' o' => Lines w' o' 0 v [⟨1#64, [97]⟩]) := hln
  clear hs hc
  go_wp2_with fail
  refine hln.mono ?_; rintro e W5 ⟨v, o5, rfl, hs, hl⟩
  have hst := hst.trans hs.above0
  have ha := ha.step0 hs
  have hc := adopt_is ht ha g1 3#64 hl (by simp) e3
  rw [u64_3] at hc
  obtain ⟨la, lc, rfl⟩ := hl.form
  clear hs hln ha
  go_wp2_with fail
  refine hc.mono ?_; rintro e W6 ⟨v, o6, rfl, hs, rfl, ha⟩
  have hst := hst.trans (hs.mono h4)
  have hln := line_any W6 o6 1#64 [98] (by simp)
  rw [u64_1] at hln
  have hln : Calls Try.prog 63 #[.int .u64 1, .string ⟨#[98]⟩] W6 (Ret Nobody W6 o6 fun v w' o' => Lines w' o' 0 v [⟨1#64, [98]⟩]) := hln
  clear hs hc hl
  go_wp2_with fail
  refine hln.mono ?_; rintro e W7 ⟨v, o7, rfl, hs, hl⟩
  have hst := hst.trans hs.above0
  have ha := ha.step0 hs
  have hc := append_is ht ha g2 k2 hl (by simp) e4
  obtain ⟨la, lc, rfl⟩ := hl.form
  clear hs hln ha
  go_wp2_with fail
  refine hc.mono ?_; rintro e W8 ⟨v, o8, rfl, hs, rfl, ha⟩
  have hst := hst.trans (hs.mono h4)
  have hln := line_any W8 o8 3#64 [98] (by simp)
  rw [u64_3] at hln
  have hln : Calls Try.prog 63 #[.int .u64 3, .string ⟨#[98]⟩] W8 (Ret Nobody W8 o8 fun v w' o' => Lines w' o' 0 v [⟨3#64, [98]⟩]) := hln
  clear hs hc hl
  go_wp2_with fail
  refine hln.mono ?_; rintro e W9 ⟨v, o9, rfl, hs, hl⟩
  have hst := hst.trans hs.above0
  have ha := ha.step0 hs
  have hc := append_is ht ha g2 k2 hl (by simp) e5
  obtain ⟨la, lc, rfl⟩ := hl.form
  clear hs hln ha
  go_wp2_with fail
  refine hc.mono ?_; rintro e Wa ⟨v, oa, rfl, hs, rfl, ha⟩
  have hst := hst.trans (hs.mono h4)
  have hre := restart_is ha.disk hD0 (by rw [g3.row]; simp) (.slice none 0 0) [] (.inl ⟨⟨_, _, rfl⟩, rfl, rfl⟩) (by simp) (restart_still' g3.dd g3.row [])
  clear hs hc hl ha
  go_wp2_with fail
  refine hre.mono ?_; rintro e Wb ⟨v, ob, rfl, hs, rfl, hd⟩
  have hst := hst.trans (hs.mono (fun k (hk : k = D) => (show M < k by omega)))
  have g4 := g3.relit (-1) (by omega)
  have hop := opens_any (t := { s3 with d := { s3.d with left := -1 } }) (D + 3) (by omega) hD0 g4 (by omega) (by show s3.d.pages.length ≤ 400; omega) hd
  clear hs hre hd
  go_wp2_with fail
  refine hop.mono ?_; rintro e Wc ⟨v, oc, rfl, hs, pt, rfl, ha⟩
  have hst := hst.trans (hs.mono (fun k (hk : D + 3 < k) => (show M < k by omega)))
  have hkp := skept_any ha k3.small
  dsimp only at hkp
  rw [q3] at hkp
  simp only [keptEx] at hkp
  clear hs hop ha
  go_wp2_with fail
  refine hkp.mono ?_; rintro e Wd ⟨v, od, rfl, hs, lv, rfl, hl, -⟩
  have hst := hst.trans hs.above0
  obtain ⟨la, lc, rfl⟩ := hl.form
  simp only [keptV, u64_3]
  have hal := hidden (run_alloc_zero (P := Try.prog) Wd 108 _ zc108)
  have hsw := setCells_alloc_whole Wd #[.int .u64 0, .int .u64 0, .slice none 0 0] 108 [.int .u64 3, .int .u64 3, .slice la 2 lc] rfl
  obtain ⟨hso, -⟩ := run_store_agg (P := Try.prog) (ty := 108) (vs := [.int .u64 3, .int .u64 3, .slice la 2 lc]) (heap_alloc_new Wd (.cells [.int .u64 0, .int .u64 0, .slice none 0 0].toArray 108)) rfl (by kernel_rfl) rfl
  rw [hsw] at hso
  have hsoH := hidden hso
  have sE := (Step.refl Nobody Wd od).alloc (.cells [.int .u64 3, .int .u64 3, .slice la 2 lc].toArray 108) (0, 0)
  have bE : (Wd.alloc (.cells [.int .u64 3, .int .u64 3, .slice la 2 lc].toArray 108)).heap[Wd.heap.size]? = some (.cells [.int .u64 3, .int .u64 3, .slice la 2 lc].toArray 108 (0, 0)) := heap_alloc_new Wd _
  have c0 := cell_of_block bE 0
  have c1 := cell_of_block bE 1
  have c2 := cell_of_block bE 2
  simp only [List.getElem?_cons_zero, List.getElem?_cons_succ] at c0 c1 c2
  have hl := hl.step sE (fun h => h)
  have hst := hidden (hst.trans sE.above0)
  obtain ⟨WE, hWE⟩ : ∃ WE, Wd.alloc (.cells [.int .u64 3, .int .u64 3, .slice la 2 lc].toArray 108) = WE := ⟨_, rfl⟩
  rw [hWE] at hsoH c0 c1 c2 hl hst
  clear hsw hso sE bE hWE hs hkp
  obtain ⟨b, off, bv, rfl, r0, y0, -⟩ := hl.at (i := 0) rfl
  obtain ⟨b', off', bv', hab, r1, y1, -⟩ := hl.at (i := 1) rfl
  simp only [Option.some.injEq, Addr.mk.injEq, and_true] at hab
  obtain ⟨rfl, rfl⟩ := hab
  have hcv : (convert 28 9 bv).run Try.prog WE = .ok (.string ⟨#[97]⟩) WE := conv_string y0
  obtain ⟨ba, bc, rfl⟩ := slc_form y0
  have hcv : (convert 28 9 (.slice ba 1 bc)).run Try.prog WE = .ok (.string ⟨#[97]⟩) WE := hcv
  have d0 : WE.cell? ⟨b, off + 1, none⟩ = some (.slice ba 1 bc) := r0 1 _ rfl
  have d1 : WE.cell? ⟨b, off + 2, none⟩ = some (.int .u64 3) := r1 0 _ rfl
  clear r0 r1 y0 y1 hl
  go_wp2_with (first
    | ((with_reducible apply lit_alloc); exact hal.out; simp only [Act.put, List.setIfInBounds_toArray, List.set_cons_zero, List.set_cons_succ])
    | ((with_reducible apply lit_store); exact hsoH.out; simp only [Act.put]))
  go_ret
  exact ⟨_, _, rfl, hst.out.noneAbove hM, rfl⟩
end Go.Proofs.YtfgggkheadfiaaaR
/- The acts of layer 9's laws: how they are read; contract of great. -/
namespace Go.Proofs.YtfgggkheadfiaaaR
open Go Go.RowKit
attribute [local go_sem ↓] Go.wp_at_zero Go.wp_at_succ
/-- v reads as the acts l. -/
def Acts (w : World) (o : Own) (v : Value) (l : List ActM) : Prop :=
  ((∃ a c, v = .slice a 0 c) ∧ l = []) ∨ ∃ b off cap, v = .slice (some ⟨b, off, none⟩) l.length cap ∧ l.length ≤ cap ∧ cap ≤ maxLen ∧ (o b).1 = 0 ∧ b < w.heap.size ∧
    ∀ i (h : i < l.length), l[i].k < 256 ∧ ∃ lv, w.rangeAt b (off + i * 3) [.int .u8 (l[i].k : Int), .int .u64 (l[i].e.toNat : Int), lv] ∧ Lines w o 0 lv l[i].ls
theorem Acts.step {T : Nat → Prop} {w w' : World} {o o' : Own} {v : Value} {l : List ActM} (h : Acts w o v l) (s : Step T w o w' o') (hT : ¬ T 0) : Acts w' o' v l := by
  rcases h with h | ⟨b, off, cap, hv, hl, hm, ho, hb, hr⟩
  · exact .inl h
  · refine .inr ⟨b, off, cap, hv, hl, hm, by rw [s.own b hb]; exact ho, Nat.lt_of_lt_of_le hb s.size, fun i hi => ?_⟩
    obtain ⟨h1, lv, h2, h3⟩ := hr i hi
    exact ⟨h1, lv, range_same h2 (s.block b hb (by rw [ho]; exact hT)), h3.step s hT⟩
theorem Acts.form {w : World} {o : Own} {v : Value} {l : List ActM} (h : Acts w o v l) : ∃ a c, v = .slice a l.length c := by
  rcases h with ⟨⟨a, c, rfl⟩, rfl⟩ | ⟨b, off, cap, rfl, _⟩ <;> exact ⟨_, _, rfl⟩
theorem Acts.at {w : World} {o : Own} {a : Option Addr} {n c : Nat} {l : List ActM} (h : Acts w o (.slice a n c) l) {i : Nat} {x : ActM} (hx : l[i]? = some x) :
    ∃ b off lv, a = some ⟨b, off, none⟩ ∧ w.rangeAt b (off + i * 3) [.int .u8 (x.k : Int), .int .u64 (x.e.toNat : Int), lv] ∧ Lines w o 0 lv x.ls ∧ x.k < 256 ∧ b < w.heap.size ∧ (o b).1 = 0 := by
  obtain ⟨hi, rfl⟩ := List.getElem?_eq_some_iff.1 hx
  rcases h with ⟨_, rfl⟩ | ⟨b, off, cap, hv, hl, hm, ho, hb, hr⟩
  · simp at hi
  · simp only [Value.slice.injEq] at hv
    obtain ⟨rfl, rfl, rfl⟩ := hv
    obtain ⟨h1, lv, h2, h3⟩ := hr i hi
    exact ⟨b, off, lv, rfl, h2, h3, h1, hb, ho⟩
section
variable {H : Type} {enc : TypeId × Value → H} {W : World}
theorem bytes_of_nums : ∀ (l : List Int), (∀ a ∈ l, (Lit.int .u8 a).wf = true) → l.map (Value.int .u8) = bvs (l.map fun a => UInt8.ofNat a.toNat)
  | [], _ => rfl
  | a :: r, h => by
    have h1 := Go.bounds_u8 (h a (by simp))
    have ih := bytes_of_nums r (fun x hx => h x (List.mem_cons_of_mem _ hx))
    rw [List.map_cons, ih]
    have : Value.int .u8 a = bv (UInt8.ofNat a.toNat) := by
      unfold bv
      rw [UInt8.toNat_ofNat']
      congr 1; omega
    rw [this]; rfl
theorem read_bytes9 {fuel : Nat} {v : Value} {x : DataW H × List MemPlace} (h : DataW.trod enc Try.prog W 0 (fun _ => true) true fuel 28 [v] = some x) : ∃ l : List UInt8, Bytes W (fun _ => (0, 0)) v l := by
  obtain ⟨l, h1, h2⟩ := read_nums Try.underlying28 Try.underlying5 (by kernel_rfl) h
  refine ⟨l.map fun a => UInt8.ofNat a.toNat, ?_⟩
  unfold Bytes
  rw [List.length_map, ← bytes_of_nums l h2]
  exact h1
theorem pair_cells (n : Nat) (f g : Nat → Value) (b off : Nat) (h : ∀ i, i < n → W.rangeAt b (off + i * 2) [f i, g i]) : W.rangeAt b off ((List.range (n * 2)).map fun j => if j % 2 = 0 then f (j / 2) else g (j / 2)) := by
  intro j v hj
  simp only [List.getElem?_map, Option.map_eq_some_iff] at hj
  obtain ⟨j', hj', rfl⟩ := hj
  obtain ⟨hjl, hje⟩ := List.getElem?_eq_some_iff.1 hj'
  simp only [List.getElem_range] at hje
  simp only [List.length_range] at hjl
  subst hje
  have hi : j / 2 < n := by omega
  by_cases hp : j % 2 = 0
  · rw [if_pos hp]
    have := h (j / 2) hi 0 _ rfl
    rwa [show off + j / 2 * 2 + 0 = off + j by omega] at this
  · rw [if_neg hp]
    have := h (j / 2) hi 1 _ rfl
    rwa [show off + j / 2 * 2 + 1 = off + j by omega] at this
set_option maxRecDepth 100000 in
theorem read_lines9 {fuel : Nat} {v : Value} {x : DataW H × List MemPlace} (h : DataW.trod enc Try.prog W 0 (fun _ => true) true fuel 93 [v] = some x) : ∃ l : List LineM, Lines W (fun _ => (0, 0)) 0 v l := by
  have c113 : Try.prog.cellsOf 113 = 2 := by kernel_rfl
  have c36 : Try.prog.cellsOf 36 = 1 := by kernel_rfl
  have c28 : Try.prog.cellsOf 28 = 1 := by kernel_rfl
  rcases read_slice Try.underlying93 (by omega) h with ⟨a, c, rfl⟩ | ⟨b, off, len, cap, rfl, h0, hlc, hcm, hb, hel⟩
  · exact ⟨[], [], .inl ⟨⟨a, c, rfl⟩, rfl, rfl⟩, LnC.nil _ _, Fresh.zero _, by simp⟩
  · obtain ⟨l, hl, hr⟩ := list_choose (fun i (m : LineM × Value) => W.rangeAt b (off + i * 2) [.int .u64 (m.1.e.toNat : Int), m.2] ∧ Bytes W (fun _ => (0, 0)) m.2 m.1.b) len (fun i hi => by
      obtain ⟨cs', k1, k2, n, y, k3⟩ := hel i (by omega)
      rw [c113] at k1 k2
      obtain ⟨xs, n', _, _, _, hxs, hf⟩ := DataW.trod_struct Try.underlying113 k3
      match cs', k1 with
      | [v0, v1], _ =>
        have f0 : DataW.trod enc Try.prog W 0 (fun _ => true) true n' 36 (([v0, v1].drop 0).take (Try.prog.cellsOf 36)) = xs[0]? := hf 0 _ rfl
        have f1 : DataW.trod enc Try.prog W 0 (fun _ => true) true n' 28 (([v0, v1].drop 1).take (Try.prog.cellsOf 28)) = xs[1]? := hf 1 _ rfl
        have hsz : xs.length = 2 := hxs
        simp only [c36, c28, List.drop_zero, List.take_succ_cons, List.take_zero, List.drop_succ_cons] at f0 f1
        rw [List.getElem?_eq_getElem (by omega)] at f0 f1
        obtain ⟨a0, e0, _, w0⟩ := DataW.trod_int Try.underlying36 f0
        obtain ⟨bs, hbs⟩ := read_bytes9 f1
        simp only [List.cons.injEq, and_true] at e0
        have b0 := Go.bounds_u64 w0
        have hb0 : (((BitVec.ofNat 64 a0.toNat).toNat : Nat) : Int) = a0 := by rw [BitVec.toNat_ofNat]; omega
        subst e0
        exact ⟨(⟨BitVec.ofNat 64 a0.toNat, bs⟩, v1), by simp only [hb0]; exact k2, hbs⟩)
    have hget : ∀ i (hi : i < len), l[i]? = some (l[i]'(by omega)) := fun i hi => List.getElem?_eq_getElem (by omega)
    refine ⟨l.map Prod.fst, (List.range (len * 2)).map fun j => if j % 2 = 0 then .int .u64 (((l.map Prod.fst).getD (j / 2) ⟨0, []⟩).e.toNat : Int) else (l.map Prod.snd).getD (j / 2) undef, ?_, ⟨by simp [hl]; omega, fun i x hx => ?_⟩, Fresh.zero _, fun u _ => Fresh.zero u⟩
    · refine .inr ⟨b, off, cap, by rw [List.length_map, hl], by rw [List.length_map]; omega, hcm, rfl, hb, pair_cells len (fun i => .int .u64 (((l.map Prod.fst).getD i ⟨0, []⟩).e.toNat : Int)) (fun i => (l.map Prod.snd).getD i undef) b off fun i hi => ?_⟩
      have := (hr i (by omega)).1
      simp only [List.getD_eq_getElem?_getD, List.getElem?_map, hget i hi, Option.map_some, Option.getD_some]
      exact this
    · have hi : i < len := by have := (List.getElem?_eq_some_iff.1 hx).1; simp [hl] at this; exact this
      have e1 : (l.map Prod.fst)[i]? = some (l[i]'(by omega)).1 := by rw [List.getElem?_map, hget i hi]; rfl
      have e2 : (l.map Prod.snd)[i]? = some (l[i]'(by omega)).2 := by rw [List.getElem?_map, hget i hi]; rfl
      rw [e1] at hx
      cases hx
      refine ⟨?_, (l[i]'(by omega)).2, ?_, (hr i (by omega)).2⟩
      · rw [List.getElem?_map, List.getElem?_range (by omega)]
        simp only [Option.map_some]
        rw [if_pos (by omega), show 2 * i / 2 = i by omega, List.getD_eq_getElem?_getD, e1]; rfl
      · rw [List.getElem?_map, List.getElem?_range (by omega)]
        simp only [Option.map_some]
        rw [if_neg (by omega), show (2 * i + 1) / 2 = i by omega, List.getD_eq_getElem?_getD, e2]; rfl
set_option maxRecDepth 100000 in
theorem read_acts9 {fuel : Nat} {v : Value} {x : DataW H × List MemPlace} (h : DataW.trod enc Try.prog W 0 (fun _ => true) true fuel 88 [v] = some x) : ∃ l : List ActM, Acts W (fun _ => (0, 0)) v l := by
  have c99 : Try.prog.cellsOf 99 = 3 := by kernel_rfl
  have c5 : Try.prog.cellsOf 5 = 1 := by kernel_rfl
  have c36 : Try.prog.cellsOf 36 = 1 := by kernel_rfl
  have c93 : Try.prog.cellsOf 93 = 1 := by kernel_rfl
  rcases read_slice Try.underlying88 (by omega) h with ⟨a, c, rfl⟩ | ⟨b, off, len, cap, rfl, h0, hlc, hcm, hb, hel⟩
  · exact ⟨[], .inl ⟨⟨a, c, rfl⟩, rfl⟩⟩
  · obtain ⟨l, hl, hr⟩ := list_choose (fun i (m : ActM) => m.k < 256 ∧ ∃ lv, W.rangeAt b (off + i * 3) [.int .u8 (m.k : Int), .int .u64 (m.e.toNat : Int), lv] ∧ Lines W (fun _ => (0, 0)) 0 lv m.ls) len (fun i hi => by
      obtain ⟨cs', k1, k2, n, y, k3⟩ := hel i (by omega)
      rw [c99] at k1 k2
      obtain ⟨xs, n', _, _, _, hxs, hf⟩ := DataW.trod_struct Try.underlying99 k3
      match cs', k1 with
      | [v0, v1, v2], _ =>
        have f0 : DataW.trod enc Try.prog W 0 (fun _ => true) true n' 5 (([v0, v1, v2].drop 0).take (Try.prog.cellsOf 5)) = xs[0]? := hf 0 _ rfl
        have f1 : DataW.trod enc Try.prog W 0 (fun _ => true) true n' 36 (([v0, v1, v2].drop 1).take (Try.prog.cellsOf 36)) = xs[1]? := hf 1 _ rfl
        have f2 : DataW.trod enc Try.prog W 0 (fun _ => true) true n' 93 (([v0, v1, v2].drop 2).take (Try.prog.cellsOf 93)) = xs[2]? := hf 2 _ rfl
        have hsz : xs.length = 3 := hxs
        simp only [c5, c36, c93, List.drop_zero, List.take_succ_cons, List.take_zero, List.drop_succ_cons] at f0 f1 f2
        rw [List.getElem?_eq_getElem (by omega)] at f0 f1 f2
        obtain ⟨a0, e0, _, w0⟩ := DataW.trod_int Try.underlying5 f0
        obtain ⟨a1, e1, _, w1⟩ := DataW.trod_int Try.underlying36 f1
        obtain ⟨ls, hls⟩ := read_lines9 f2
        simp only [List.cons.injEq, and_true] at e0 e1
        have b0 := Go.bounds_u8 w0
        have b1 := Go.bounds_u64 w1
        have hb0 : ((a0.toNat : Nat) : Int) = a0 := by omega
        have hb1 : (((BitVec.ofNat 64 a1.toNat).toNat : Nat) : Int) = a1 := by rw [BitVec.toNat_ofNat]; omega
        subst e0 e1
        exact ⟨⟨a0.toNat, BitVec.ofNat 64 a1.toNat, ls⟩, by show a0.toNat < 256; omega, v2, by simp only [hb0, hb1]; exact k2, hls⟩)
    exact ⟨l, .inr ⟨b, off, cap, by rw [hl], by omega, hcm, rfl, hb, hr⟩⟩
end
/-- What a statement looks at. -/
def Few (l : List ActM) : Prop := l.length ≤ 60 ∧ ∀ x ∈ l, x.ls.length ≤ 300
/-- What great answers. -/
def GreatV (l : List ActM) (v : Value) : Prop := ∃ r, v = .bool r ∧ (r = false → Few l)
set_option maxRecDepth 100000 in
set_option maxHeartbeats 6400000 in
theorem great_any {w : World} {o : Own} {v : Value} {l : List ActM} (h : Acts w o v l) :
    Calls Try.prog 52 #[v] w (Ret Nobody w o fun v _ _ => GreatV l v) := by
  obtain ⟨aa, ac, rfl⟩ := h.form
  have hlb : l.length ≤ maxLen := by
    rcases h with ⟨_, rfl⟩ | ⟨b, off, cap, hv, hl, hm, _⟩
    · simp
    · omega
  simp only [maxLen] at hlb
  obtain ⟨N, hN⟩ : ∃ N, l.length = N := ⟨_, rfl⟩
  rw [hN] at h hlb ⊢
  have hH := hidden h
  have hNH := hidden hN
  have hlbI : (0 : Int) ≤ (N : Int) ∧ (N : Int) ≤ 9223372036854775807 := by omega
  clear h hN hlb
  go_enter Try.func52, Try.ntmps52
  go_wp2_with fail
  go_loopw [3, 4, 5] (fun nv i kv wr => ∃ (k : Nat) (n : Int), k ≤ N ∧ k ≤ 100 ∧ i = .int .i64 k ∧ nv = .int .i64 n ∧ (∀ x ∈ l.take k, x.ls.length ≤ 300) ∧ wr = w) (fun _ i _ _ => 100 - (intOf i).toNat)
  case atStart => exact ⟨0, 0, by omega, by omega, rfl, rfl, by simp, rfl⟩
  case round =>
    obtain ⟨k, n, hk, hk2, rfl, rfl, hall, hwr⟩ := hrel
    subst hwr
    have hallH := hidden hall
    clear hall
    by_cases hlt : k < N
    · have hltI : (k : Int) < (N : Int) := by omega
      by_cases h100 : k < 100
      · have h100I : (k : Int) < 100 := by omega
        obtain ⟨x, hx⟩ : ∃ x, l[k]? = some x := ⟨_, List.getElem?_eq_getElem (by rw [hNH.out]; exact hlt)⟩
        obtain ⟨b, off, lv, rfl, hrg, hln, -, -, -⟩ := hH.out.at hx
        obtain ⟨la, lc, rfl⟩ := hln.form
        have cL : wr.cell? ⟨b, off + k * 3 + 2, none⟩ = some (.slice la x.ls.length lc) := hrg 2 _ rfl
        have hxH := hidden hx
        obtain ⟨L, hL⟩ : ∃ L, x.ls.length = L := ⟨_, rfl⟩
        rw [hL] at cL hln
        have hLb : (0 : Int) ≤ (L : Int) ∧ (L : Int) ≤ 9223372036854775807 := by
          obtain ⟨cs, hs, -⟩ := hln
          rcases hs with ⟨_, h0, -⟩ | ⟨b', off', cap, hv, hl, hm, _⟩
          · rw [hL] at h0; omega
          · simp only [Value.slice.injEq] at hv
            rw [hL] at hl
            simp only [maxLen] at hm
            omega
        have hlnH := hidden hln
        have hLH := hidden hL
        clear hrg hx hln hL
        by_cases h300 : L ≤ 300
        · have h300I : ¬ (300 : Int) < (L : Int) := by omega
          go_wp2_with fail
          go_loopw [3, 5] (fun nv j wr2 => ∃ (q : Nat) (n : Int), q ≤ L ∧ j = .int .i64 q ∧ nv = .int .i64 n ∧ wr2 = wr) (fun _ j _ => L - (intOf j).toNat)
          case atStart => exact ⟨0, n, by omega, rfl, rfl, rfl⟩
          case round =>
            obtain ⟨q, n2, hq, rfl, rfl, hwr2⟩ := hrel
            subst hwr2
            by_cases hq2 : q < L
            · have hq2I : (q : Int) < (L : Int) := by omega
              obtain ⟨y, hy⟩ : ∃ y, x.ls[q]? = some y := ⟨_, List.getElem?_eq_getElem (by rw [hLH.out]; exact hq2)⟩
              obtain ⟨b2, off2, bv, rfl, hrg, hby, -⟩ := hlnH.out.at hy
              obtain ⟨ba, bc, rfl⟩ := slc_form hby
              have cB : wr.cell? ⟨b2, off2 + q * 2 + 1, none⟩ = some (.slice ba y.b.length bc) := hrg 1 _ rfl
              generalize y.b.length = yl at *
              clear hrg hby hy
              go_wp2_with fail
              go_roundw
              case rel => exact ⟨q + 1, _, by omega, by go_num, rfl, (by first | trivial | rfl)⟩
              case measure => simp [intOf]; omega
            · obtain rfl : q = L := by omega
              go_wp2_with fail
              go_roundw
              case rel => exact ⟨k + 1, n2, by omega, by omega, by go_num, rfl, fun y hy => (by
                rw [List.take_add_one, hxH.out] at hy
                rcases List.mem_append.1 hy with hy | hy
                · exact hallH.out y hy
                · simp at hy; subst hy; rw [hLH.out]; exact h300), (by first | trivial | rfl)⟩
              case measure => simp [intOf]; omega
        · have h300I : (300 : Int) < (L : Int) := by omega
          go_wp2_with fail
          go_ret
          exact ⟨_, o, rfl, Step.refl _ _ _, true, rfl, fun h => by cases h⟩
      · have h100I : ¬ (k : Int) < 100 := by omega
        have h60I : (60 : Int) < (N : Int) := by omega
        go_wp2_with fail
        go_ret
        exact ⟨_, o, rfl, Step.refl _ _ _, true, rfl, fun h => by cases h⟩
    · obtain rfl : k = N := by omega
      by_cases h60 : k ≤ 60
      · have h60I : ¬ (60 : Int) < (k : Int) := by omega
        go_wp2_with fail
        go_ret
        refine ⟨_, o, rfl, Step.refl _ _ _, _, rfl, fun _ => ⟨by rw [hNH.out]; exact h60, fun x hx => hallH.out x ?_⟩⟩
        rw [List.take_of_length_le (by rw [hNH.out]; omega)]; exact hx
      · have h60I : (60 : Int) < (k : Int) := by omega
        go_wp2_with fail
        go_ret
        exact ⟨_, o, rfl, Step.refl _ _ _, true, rfl, fun h => by cases h⟩
end Go.Proofs.YtfgggkheadfiaaaR
/- The statement StoreAgain: the walk. -/
namespace Go.Proofs.YtfgggkheadfiaaaR
open Go Go.RowKit
attribute [local go_sem ↓] Go.wp_at_zero Go.wp_at_succ
theorem load99 {w : World} {b off : Nat} {a : ActM} {lv : Value} (hr : w.rangeAt b off [.int .u8 (a.k : Int), .int .u64 (a.e.toNat : Int), lv]) : (Instr.loadAt 99 (.pointer (some ⟨b, off, none⟩))).run Try.prog w = .ok (actV a lv) w := by
  simp only [Instr.loadAt, Instr.sureAddr, Sem.run_bind, Sem.run_pure, Result.andThen_ok]
  exact run_loadVar_mid w b off 99 [.int .u8 (a.k : Int), .int .u64 (a.e.toNat : Int), lv] _ hr Try.underlying99 rfl (by kernel_rfl)
theorem text_is {w : World} {o : Own} {S A B D ps pd base : Nat} {s : StoreM} {T : List UInt8} (h : StoreAt w o S A B D ps pd base s) (hk : KOk s.kept) (hT : textM s.kept.promised s.kept.current s.kept.lines = T) :
    Calls Try.prog 58 #[.pointer (some ⟨ps, 0, none⟩)] w (Ret Nobody w o fun v _ _ => v = .string ⟨T.toArray⟩) := by
  have := text_any h hk
  rw [hT] at this; exact this
end Go.Proofs.YtfgggkheadfiaaaR
/- Regions that draw their order: a region's walk is cut off by what holds behind it; two operations that may come up in either order. -/
namespace Go.Proofs.YtfgggkheadfiaaaR
open Go Go.RowKit

section
variable {P : Program} {ops : Array Oper} {Q : Exit → Act → World → Prop} {md : Region.Mode} {S : World → Prop} {need : Nat → Bool}
end
section
variable {P : Program} {ops : Array Oper} {Q : Exit → Act → World → Prop} {rest : List Oper} {a : Act} {w w' : World} {d : Option Tmp} {ty : TypeId} {ps : String} {af : Array Edge} {v : Value}
/-- As lit_load, lit_store: the world is compared first, then the operands. -/
theorem lit_load_at {x : Operand} {t : TypeId} {p : Value} (hr : (Instr.loadAt t p).run P w = .ok v w') (hx : a.eval x = p) (h : wpList P ops Q rest (a.put d v) w') :
    wpList P ops Q ({ dst := d, op := .load t x, type := ty, pos := ps, after := af, guard := none } :: rest) a w := lit_load (hx ▸ hr) h
theorem lit_store_at {x y : Operand} {t : TypeId} {p u : Value} (hr : (Instr.storeAt t p u).run P w = .ok () w') (hx : a.eval x = p) (hy : a.eval y = u) (h : wpList P ops Q rest (a.put d undef) w') :
    wpList P ops Q ({ dst := d, op := .store t x y, type := ty, pos := ps, after := af, guard := none } :: rest) a w := lit_store (hx ▸ hy ▸ hr) h
theorem lit_alloc_at {t : TypeId} (hr : (Instr.alloc t true (.tuple #[])).run P w = .ok v w') (h : wpList P ops Q rest (a.put d v) w') :
    wpList P ops Q ({ dst := d, op := .alloc t, type := ty, pos := ps, after := af, guard := none } :: rest) a w := lit_alloc hr h
end
end Go.Proofs.YtfgggkheadfiaaaR
/- What every row over this seat's program asks of it. -/
namespace Go.Proofs.YtfgggkheadfiaaaR
open Go Go.RowKit
theorem ownKnobs : ownKnob Try.prog.godebug = none := by kernel_rfl
theorem laidOutTry : laidOutB Try.prog = true := by kernel_rfl
end Go.Proofs.YtfgggkheadfiaaaR
