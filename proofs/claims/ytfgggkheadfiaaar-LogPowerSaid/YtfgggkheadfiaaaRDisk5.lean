/- Contracts of the disk: Sync, Restart. -/
import Derived.Test.YtfgggkheadfiaaaRDisk4
namespace Go.Proofs.YtfgggkheadfiaaaR
open Go Go.RowKit
attribute [local go_sem ↓] Go.wp_at_zero Go.wp_at_succ

def ivs (l : List Int) : List Value := l.map (.int .i64)
def Ints (w : World) (o : Own) (v : Value) (l : List Int) : Prop := Slc w o v l.length (ivs l)

theorem sync1_any (i : Int) (x : World) : Calls Try.prog 70 #[.int .i64 i] x fun e x' => e = .returned (.int .i64 512) ∧ x = x' := by
  go_enter Try.func70, Try.ntmps70
  go_wp2
  go_ret
  exact ⟨rfl, rfl⟩

theorem fate_eq (a : Int) : ((a.tmod 513) + 513) % 513 = a % 513 := by
  have e1 : (a.tmod 513) = a % 513 ∨ (a.tmod 513) = a % 513 - 513 := by
    rw [Int.tmod_eq_emod]
    split
    · left; omega
    · right; simp
  omega

set_option maxRecDepth 100000 in
set_option maxHeartbeats 800000 in
theorem restart1_any (i : Nat) (x : World) (o : Own) (box : Nat) (fv : Value) (l : List Int) (hbox : x.cell? ⟨box, 0, none⟩ = some fv) (hl : Ints x o fv l) (hwf : ∀ a ∈ l, -9223372036854775808 ≤ a ∧ a ≤ 9223372036854775807) (hi : i ≤ 1000000) :
    Calls Try.prog 71 #[.int .i64 (i : Int), .pointer (some ⟨box, 0, none⟩)] x fun e x' => e = .returned (.int .i64 (DiskM.fate l i : Int)) ∧ x = x' := by
  rcases hl with ⟨⟨sa, sc, rfl⟩, hn, hcs⟩ | ⟨b, off, cap, rfl, hlc, hm, ho, hb, hr⟩
  · have : l = [] := List.eq_nil_of_length_eq_zero hn
    subst this
    have hE : (DiskM.fate [] i : Int) = 0 := by simp [DiskM.fate]
    rw [hE]
    go_enter Try.func71, Try.ntmps71
    go_wp2
    go_ret
    exact ⟨rfl, rfl⟩
  · by_cases hlt : i < l.length
    · have hc : x.cell? ⟨b, off + i, none⟩ = some (.int .i64 l[i]) := hr i _ (by simp [ivs, hlt])
      have hbd := hwf l[i] (List.getElem_mem hlt)
      have hE : (DiskM.fate l i : Int) = l[i] % 513 := by
        simp only [DiskM.fate, List.getD_eq_getElem?_getD, List.getElem?_eq_getElem hlt, Option.getD_some]
        omega
      rw [hE]
      generalize l[i] = a at *
      have hcap : (l.length : Int) ≤ 9223372036854775807 := by unfold maxLen at hm; omega
      have b1 := hbd.1
      have b2 := hbd.2
      clear hbd hE hr hwf
      have g1 : -513 < a.tmod 513 := by have := Int.tmod_lt_of_pos a (show (0:Int) < 513 by omega); have h2 := Int.lt_tmod_of_pos a (show (0:Int) < 513 by omega); omega
      have g2 : a.tmod 513 < 513 := Int.tmod_lt_of_pos a (by omega)
      go_enter Try.func71, Try.ntmps71
      go_wp2
      go_ret
      exact ⟨by rw [← fate_eq a]; rfl, rfl⟩
    · have hE : (DiskM.fate l i : Int) = 0 := by
        simp only [DiskM.fate, List.getD_eq_getElem?_getD]
        rw [List.getElem?_eq_none (by omega)]; simp
      rw [hE]
      clear hE
      have hcap : (l.length : Int) ≤ 9223372036854775807 := by unfold maxLen at hm; omega
      go_enter Try.func71, Try.ntmps71
      go_wp2
      go_ret
      exact ⟨rfl, rfl⟩

theorem sync_no {w : World} {o : Own} {D p : Nat} {d : DiskM} (h : DiskAt w o D p d) (hc : (d.counted (d.asked 0 512)).2 ≠ 0) :
    Calls Try.prog 24 #[.pointer (some ⟨p, 0, none⟩)] w (Ret (Only D) w o fun v w' o' => v = .int .i64 d.sync.2 ∧ DiskAt w' o' D p d.sync.1) := by
  have hE : d.sync = d.counted (d.asked 0 512) := by simp [DiskM.sync, hc]
  rw [hE]
  obtain ⟨e, he⟩ : ∃ e, Hid (d.asked 0 512 = e) := ⟨_, rfl⟩
  rw [he.out] at hc ⊢
  obtain ⟨d1, e1, hd⟩ : ∃ d1 e1, Hid (d.counted e = (d1, e1)) := ⟨_, _, rfl⟩
  rw [hd.out] at hc ⊢
  have hc' : (e1 != 0) = true := by simpa using hc
  clear hc hE
  go_enter Try.func24, Try.ntmps24
  go_wp2_with (first | (go_at_call 68; refine (asked_is h _ _ _ he).mono ?_; rintro e w' ⟨rfl, rfl⟩) | (go_at_call 67; refine (counted_is h _ hd).mono ?_; rintro e w' ⟨v1, o1, rfl, hs1, rfl, hd1⟩))
  go_ret
  exact ⟨_, o1, rfl, hs1, rfl, hd1⟩

theorem sync_any {w : World} {o : Own} {D p : Nat} {d : DiskM} (h : DiskAt w o D p d) (hrow : d.row.length ≤ 1000000) :
    Calls Try.prog 24 #[.pointer (some ⟨p, 0, none⟩)] w (Ret (Only D) w o fun v w' o' => v = .int .i64 d.sync.2 ∧ DiskAt w' o' D p d.sync.1) := by
  by_cases hc : (d.counted (d.asked 0 512)).2 = 0
  · have hE : d.sync = ((d.counted (d.asked 0 512)).1.done fun _ => 512, 0) := by simp [DiskM.sync, hc]
    rw [hE]
    obtain ⟨hpg, hrw⟩ := DiskM.counted_same d (d.asked 0 512)
    obtain ⟨e, he⟩ : ∃ e, Hid (d.asked 0 512 = e) := ⟨_, rfl⟩
    rw [he.out] at hc hrw ⊢
    obtain ⟨d1, e1, hd⟩ : ∃ d1 e1, Hid (d.counted e = (d1, e1)) := ⟨_, _, rfl⟩
    rw [hd.out] at hc hrw ⊢
    simp only at hc hrw ⊢
    subst hc
    have hrow1 : d1.row.length ≤ 1000000 := by rw [hrw]; exact hrow
    clear hE hpg hrw
    go_enter Try.func24, Try.ntmps24
    go_wp2_with (first
      | (go_at_call 68; refine (asked_is h _ _ _ he).mono ?_; rintro e w' ⟨rfl, rfl⟩)
      | (go_at_call 67; refine (counted_is h _ hd).mono ?_; rintro e w1 ⟨v1, o1, rfl, hs1, rfl, hd1⟩)
      | (go_at_call 69; refine (done_any hd1 hrow1 70 #[] (fun _ => 512) (by simp) Try.call70 ?_).mono ?_; (intro i x _ _; exact sync1_any _ _); rintro e w2 ⟨v2, o2, rfl, hs2, rfl, hd2⟩))
    go_ret
    exact ⟨_, o2, rfl, hs1.trans hs2, rfl, hd2⟩
  · exact sync_no h hc
theorem sync_nil (w : World) : Calls Try.prog 24 #[.pointer none] w fun e w' => e = .returned (.int .i64 8) ∧ w = w' := by
  go_enter Try.func24, Try.ntmps24
  go_wp2_with (first | (go_at_call 68; refine (asked_nil _ _ _).mono ?_; rintro e w' ⟨rfl, rfl⟩) | (go_at_call 67; refine (counted_pass _ _ _ ?_).mono ?_; (simp); rintro e w' ⟨rfl, rfl⟩))
  go_ret
  exact ⟨rfl, rfl⟩

theorem tag0 {o : Own} {k : Nat} : tagAt o k (0, 0) k = (0, 0) := tagAt_same _ _ _
set_option maxRecDepth 100000 in
set_option maxHeartbeats 800000 in
theorem restart_any {w : World} {o : Own} {D p : Nat} {d : DiskM} (h : DiskAt w o D p d) (hD : D ≠ 0) (hrow : d.row.length ≤ 1000000) (fv : Value) (l : List Int) (hl : Ints w o fv l) (hwf : ∀ a ∈ l, -9223372036854775808 ≤ a ∧ a ≤ 9223372036854775807) :
    Calls Try.prog 26 #[.pointer (some ⟨p, 0, none⟩), fv] w (Ret (Only D) w o fun v w' o' => v = .tuple #[] ∧ DiskAt w' o' D p (d.restart l)) := by
  obtain ⟨ra, rc, rfl⟩ := slc_form hl
  generalize hfe : Value.slice ra l.length rc = fv at *
  have hs0 : Step (Only D) w o (w.alloc (.cells #[fv] 34)) (tagAt o w.heap.size (0, 0)) := (Step.refl _ w o).alloc _ _
  have hd0 : DiskAt (w.alloc (.cells #[fv] 34)) (tagAt o w.heap.size (0, 0)) D p d := h.step ((Step.refl Nobody w o).alloc _ _) (fun x => x)
  have hl0 : Ints (w.alloc (.cells #[fv] 34)) (tagAt o w.heap.size (0, 0)) fv l := hl.step ((Step.refl Nobody w o).alloc _ _) (fun x => x)
  have hbx : (w.alloc (.cells #[fv] 34)).heap[w.heap.size]? = some (.cells #[fv] 34 (0, 0)) := heap_alloc_new w _
  have hsays : ∀ (i : Nat) (x : World), i < d.row.length → (∀ k, k < (w.alloc (.cells #[fv] 34)).heap.size → (tagAt o w.heap.size (0, 0) k).1 ≠ D → x.heap[k]? = (w.alloc (.cells #[fv] 34)).heap[k]?) →
      Calls Try.prog 71 (#[.int .i64 (i : Int)] ++ #[.pointer (some ⟨w.heap.size, 0, none⟩)]) x fun e x' => e = .returned (.int .i64 (DiskM.fate l i : Int)) ∧ x = x' := by
    intro i x hi hx
    have hb1 : x.heap[w.heap.size]? = some (.cells #[fv] 34 (0, 0)) := by rw [hx _ (by simp) (by rw [tagAt_same]; exact fun h => hD h.symm)]; exact hbx
    have hl1 : Ints x (fun k => if k < (w.alloc (.cells #[fv] 34)).heap.size then tagAt o w.heap.size (0, 0) k else (0, 0)) fv l := by
      rcases hl0 with h0 | ⟨b, off, cap, hv, hlc, hm, ho, hb, hr⟩
      · exact .inl h0
      · have e := hx b hb (by rw [ho]; exact fun h => hD h.symm)
        refine .inr ⟨b, off, cap, hv, hlc, hm, by simp only [if_pos hb]; exact ho, ?_, range_same hr e⟩
        have hb' : b < x.heap.size := by
          rcases Nat.lt_or_ge b x.heap.size with h1 | h1
          · exact h1
          · rw [Array.getElem?_eq_none h1, Array.getElem?_eq_getElem hb] at e; cases e
        exact hb'
    exact restart1_any i x _ w.heap.size fv l (cell_of_one hb1) hl1 hwf (by omega)
  have hsaysH := hidden hsays
  clear hsays hwf hl hl0 hbx
  subst hfe
  have hlast : ∀ (w2 : World) (o2 : Own), Step (Only D) w o w2 o2 → DiskAt w2 o2 D p (d.done (DiskM.fate l)) → Hid (Step (Only D) w o ((w2.setCell ⟨p, 3, none⟩ (.bool false)).setCell ⟨p, 2, none⟩ (.int .i64 (-1))) o2 ∧
      DiskAt ((w2.setCell ⟨p, 3, none⟩ (.bool false)).setCell ⟨p, 2, none⟩ (.int .i64 (-1))) o2 D p (d.restart l)) := fun w2 o2 hs2 hd2 =>
    ⟨(hs2.trans (hd2.setStep 3 (.bool false))).trans ((hd2.setDead false).setStep 2 (.int .i64 (-1))), (hd2.setDead false).setLeft (-1) (by omega)⟩
  go_enter Try.func26, Try.ntmps26
  go_wp2_with (first
    | (go_at_call 69; refine (done_any hd0 hrow 71 #[.pointer (some ⟨w.heap.size, 0, none⟩)] (DiskM.fate l) (DiskM.fate_le l) Try.call71 hsaysH.out).mono ?_; rintro e w2 ⟨v2, o2, rfl, hs2, rfl, hd2⟩
       have hl2 := hlast w2 o2 (hs0.trans hs2) hd2
       clear hlast
       obtain ⟨bl, rv, ⟨c0, c1, c2, c3⟩, ⟨f1, f2, f3⟩, -⟩ := hd2.open
       have c2x : (w2.setCell ⟨p, 3, none⟩ (.bool false)).cell? ⟨p, 2, none⟩ = some (.int .i64 (d.done (DiskM.fate l)).left) := by rw [World.cell?_setCell_other _ _ _ _ (by simp)]; exact c2))
  go_end0
  exact ⟨_, o2, rfl, hl2.out.1, rfl, hl2.out.2⟩
theorem restart_nil (w : World) (a : Option Addr) (n c : Nat) (o : Own) : Calls Try.prog 26 #[.pointer none, .slice a n c] w (Ret Nobody w o fun v _ _ => v = .tuple #[]) := by
  have hs := (Step.refl Nobody w o).alloc' (.cells #[.slice a n c] 34)
  go_enter Try.func26, Try.ntmps26
  go_wp2
  go_end0
  exact ⟨_, o, rfl, hs, rfl⟩
end Go.Proofs.YtfgggkheadfiaaaR
