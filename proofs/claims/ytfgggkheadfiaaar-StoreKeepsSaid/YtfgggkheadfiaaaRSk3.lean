/- How a log lies in memory; contracts: Room, alive. -/
import Derived.RangeFuncNested
import Derived.RangeFuncBound
import Derived.RangeFuncCalls
import Derived.RangeFuncLeaves
import Derived.Shelf.Abstract
import Derived.Shelf.RegionOpen
import Derived.WalkKit
import Derived.OwnWalkIn
import Derived.TacticsInMore
import Derived.LoopNIn
import Derived.LoopIn
import Derived.OrdersIn
import Derived.Test.YtfgggkheadfiaaaRSk1
import Derived.Test.YtfgggkheadfiaaaRSk2
namespace Go.Proofs.YtfgggkheadfiaaaR
open Go Go.RowKit
attribute [local go_sem ↓] Go.wp_at_zero Go.wp_at_succ

def LogM.wf (m : LogM) : Prop := m.first ≤ 4096 ∧ 2 ≤ m.n ∧ m.n ≤ 2000 ∧ 1 ≤ m.end' ∧ m.end' ≤ m.n ∧ m.records.length + 1 ≤ m.end' ∧ ∀ r ∈ m.records, r.length ≤ 960000
def LogM.cells (m : LogM) (pd : Nat) (rv : Value) : List Value :=
  [.pointer (some ⟨pd, 0, none⟩), .int .i64 (m.first : Int), .int .i64 (m.n : Int), .int .u64 (m.stamp.toNat : Int), .bool m.headed, .int .i64 (m.end' : Int), rv, .bool m.dead]
/-- A record's bytes lie in a block of their own kind: its second number is 1. -/
def Mine (w : World) (o : Own) (v : Value) : Prop := ∀ b off n c, v = .slice (some ⟨b, off, none⟩) n c → 0 < n → b < w.heap.size ∧ (o b).2 = 1
theorem Mine.step {T : Nat → Prop} {w w' : World} {o o' : Own} {v : Value} (h : Mine w o v) (s : Step T w o w' o') : Mine w' o' v := fun b off n c e hn => by
  obtain ⟨h1, h2⟩ := h b off n c e hn
  exact ⟨Nat.lt_of_lt_of_le h1 s.size, by rw [s.own b h1]; exact h2⟩
def RowsT (w : World) (o : Own) (vs : List Value) (ls : List (List UInt8)) : Prop := RowsB w o vs ls ∧ ∀ v ∈ vs, Mine w o v
theorem RowsT.step {T : Nat → Prop} {w w' : World} {o o' : Own} {vs : List Value} {ls : List (List UInt8)} (h : RowsT w o vs ls) (s : Step T w o w' o') (hT : ¬ T 0) : RowsT w' o' vs ls :=
  ⟨h.1.step s hT, fun v hv => (h.2 v hv).step s⟩
theorem RowsT.nil (w : World) (o : Own) : RowsT w o [] [] := ⟨RowsB.nil w o, by simp⟩
/-- The log m lies at block p, over the disk at block pd; its blocks are the object L's. -/
def LogAt (w : World) (o : Own) (L p pd : Nat) (m : LogM) : Prop :=
  ∃ rv vs, w.heap[p]? = some (.cells (m.cells pd rv).toArray 135 (0, 0)) ∧ w.ownsRow 0 28 1 rv m.records.length vs ∧ RowsT w o vs m.records ∧ o p = (L, 0) ∧ (∀ k, rv.ownBlock = some k → o k = (L, 1)) ∧ m.wf
def In (L D : Nat) : Nat → Prop := fun k => k = L ∨ k = D
theorem LogAt.step {T : Nat → Prop} {w w' : World} {o o' : Own} {L p pd : Nat} {m : LogM} (h : LogAt w o L p pd m) (s : Step T w o w' o') (hT : ¬ T L) (h0 : ¬ T 0) : LogAt w' o' L p pd m := by
  obtain ⟨rv, vs, hp, hr, hv, op, orr, hwf⟩ := h
  have hpl := lt_of_block hp
  refine ⟨rv, vs, ?_, ?_, hv.step s h0, ?_, ?_, hwf⟩
  · rw [s.block p hpl (by rw [op]; exact hT)]; exact hp
  · exact ownsRow_same hr fun k hk => s.block k (hr.lt k hk).2 (by rw [orr k hk]; exact hT)
  · rw [s.own p hpl]; exact op
  · intro k hk; rw [s.own k (hr.lt k hk).2]; exact orr k hk
theorem LogAt.wf {w : World} {o : Own} {L p pd : Nat} {m : LogM} (h : LogAt w o L p pd m) : m.wf := by
  obtain ⟨rv, vs, hp, hr, hv, op, orr, hwf⟩ := h; exact hwf
theorem LogAt.lt {w : World} {o : Own} {L p pd : Nat} {m : LogM} (h : LogAt w o L p pd m) : p < w.heap.size := by
  obtain ⟨rv, vs, hp, hr, hv, op, orr, hwf⟩ := h; exact lt_of_block hp
theorem LogAt.ofL {w : World} {o : Own} {L p pd : Nat} {m : LogM} (h : LogAt w o L p pd m) : (o p).1 = L := by
  obtain ⟨rv, vs, hp, hr, hv, op, orr, hwf⟩ := h; rw [op]
/-- A field of the log's own struct is written. -/
theorem LogAt.set {w : World} {o : Own} {L p pd : Nat} {m m' : LogM} (h : LogAt w o L p pd m) (hL : L ≠ 0) (i : Nat) (v : Value) (hc : ∀ rv, (m.cells pd rv).set i v = m'.cells pd rv) (hr : m'.records = m.records) (hwf : m'.wf) :
    LogAt (w.setCell ⟨p, i, none⟩ v) o L p pd m' := by
  obtain ⟨rv, vs, hp, hro, hv, op, orr, _⟩ := h
  have hs := (Step.refl (Only L) w o).setCell (a := ⟨p, i, none⟩) v (.inl (by show Only L (o p).1; rw [op]; rfl))
  refine ⟨rv, vs, by rw [heap_setCell_at v hp, hc], ?_, by rw [hr]; exact hv.step hs (fun h => hL h.symm), op, orr, hwf⟩
  rw [hr]
  refine ownsRow_same hro fun k hk => Below.heap_setCell _ _ _ _ ?_
  rintro rfl; have := orr _ hk; rw [op] at this; simp at this
theorem LogAt.setStep {w : World} {o : Own} {L p pd : Nat} {m : LogM} (h : LogAt w o L p pd m) (i : Nat) (v : Value) : Step (Only L) w o (w.setCell ⟨p, i, none⟩ v) o :=
  (Step.refl _ w o).setCell v (.inl h.ofL)
theorem LogAt.open {w : World} {o : Own} {L p pd : Nat} {m : LogM} (h : LogAt w o L p pd m) : ∃ rv vs,
    (w.cell? ⟨p, 0, none⟩ = some (.pointer (some ⟨pd, 0, none⟩)) ∧ w.cell? ⟨p, 1, none⟩ = some (.int .i64 (m.first : Int)) ∧ w.cell? ⟨p, 2, none⟩ = some (.int .i64 (m.n : Int)) ∧ w.cell? ⟨p, 3, none⟩ = some (.int .u64 (m.stamp.toNat : Int)) ∧
     w.cell? ⟨p, 4, none⟩ = some (.bool m.headed) ∧ w.cell? ⟨p, 5, none⟩ = some (.int .i64 (m.end' : Int)) ∧ w.cell? ⟨p, 6, none⟩ = some rv ∧ w.cell? ⟨p, 7, none⟩ = some (.bool m.dead)) ∧
    (∀ i, w.frozen? ⟨p, i, none⟩ = false) ∧ w.ownsRow 0 28 1 rv m.records.length vs ∧ RowsB w o vs m.records ∧ o p = (L, 0) ∧ (∀ k, rv.ownBlock = some k → o k = (L, 1)) := by
  obtain ⟨rv, vs, hp, hr, hv, op, orr, hwf⟩ := h
  exact ⟨rv, vs, ⟨cell_of_block hp 0, cell_of_block hp 1, cell_of_block hp 2, cell_of_block hp 3, cell_of_block hp 4, cell_of_block hp 5, cell_of_block hp 6, cell_of_block hp 7⟩, fun i => free_of_block hp i, hr, hv.1, op, orr⟩

set_option maxRecDepth 100000 in
set_option maxHeartbeats 800000 in
theorem room_any {w : World} {o : Own} {L p pd : Nat} {m : LogM} (h : LogAt w o L p pd m) : Calls Try.prog 48 #[.pointer (some ⟨p, 0, none⟩)] w (Ret Nobody w o fun v _ _ => v = .int .i64 (m.room : Int)) := by
  obtain ⟨h1, h2, h3, h4, h5, _⟩ := h.wf
  obtain ⟨rv, vs, ⟨c0, c1, c2, c3, c4, c5, c6, c7⟩, -⟩ := h.open
  have hE : ((m.room : Nat) : Int) = 480 * ((m.n : Int) - (m.end' : Int)) := by unfold LogM.room; omega
  rw [hE]
  have b1 : (m.n : Int) ≤ 2000 := by omega
  have b2 : (m.end' : Int) ≤ (m.n : Int) := by omega
  clear hE h1 h2 h3 h4 h5 c0 c1 c3 c4 c6 c7
  have hst := (Step.refl Nobody w o).drew
  go_enter Try.func48, Try.ntmps48
  go_wp2_with fail
  refine wp_region_need (fun w' => w'.cell? ⟨p, 2, none⟩ = some (.int .i64 (m.n : Int)) ∧ w'.cell? ⟨p, 5, none⟩ = some (.int .i64 (m.end' : Int))) (fun _ => true) (by kernel_rfl) ⟨c2, c5⟩ (fun hHeld => ?_)
  refine wpAnyN_tk (i := 0) (v := ?_) rfl (by kernel_rfl) (fun _ _ _ h => h) (Or.inl ⟨by rfl, ?_⟩) (by assumption) ?_
  rotate_left
  · intro w hSw; ((try dsimp only at hSw); go_simp; (try with_reducible rfl))
  simp only [Act.put, List.setIfInBounds_toArray, List.set_cons_zero, List.set_cons_succ]
  refine wpAnyN_tk (i := 1) (v := ?_) rfl (by kernel_rfl) (fun _ _ _ h => h) (Or.inl ⟨by rfl, ?_⟩) (by assumption) ?_
  rotate_left
  · intro w hSw; ((try dsimp only at hSw); go_simp; (try with_reducible rfl))
  simp only [Act.put, List.setIfInBounds_toArray, List.set_cons_zero, List.set_cons_succ]
  refine wpAnyN_tk (i := 2) (v := ?_) rfl (by kernel_rfl) (fun _ _ _ h => h) (Or.inl ⟨by rfl, ?_⟩) (by assumption) ?_
  rotate_left
  · intro w hSw; ((try dsimp only at hSw); go_simp; (try with_reducible rfl))
  simp only [Act.put, List.setIfInBounds_toArray, List.set_cons_zero, List.set_cons_succ]
  refine wpAnyN_tk (i := 3) (v := ?_) rfl (by kernel_rfl) (fun _ _ _ h => h) (Or.inl ⟨by rfl, ?_⟩) (by assumption) ?_
  rotate_left
  · intro w hSw; ((try dsimp only at hSw); go_simp; (try with_reducible rfl))
  simp only [Act.put, List.setIfInBounds_toArray, List.set_cons_zero, List.set_cons_succ]
  refine wpAnyN_tk (i := 4) (v := ?_) rfl (by kernel_rfl) (fun _ _ _ h => h) (Or.inl ⟨by rfl, ?_⟩) (by assumption) ?_
  rotate_left
  · intro w hSw; ((try dsimp only at hSw); go_simp; (try with_reducible rfl))
  simp only [Act.put, List.setIfInBounds_toArray, List.set_cons_zero, List.set_cons_succ]
  refine wpAnyN_tk (i := 5) (v := ?_) rfl (by kernel_rfl) (fun _ _ _ h => h) (Or.inl ⟨by rfl, ?_⟩) (by assumption) ?_
  rotate_left
  · intro w hSw; ((try dsimp only at hSw); go_simp; (try with_reducible rfl))
  simp only [Act.put, List.setIfInBounds_toArray, List.set_cons_zero, List.set_cons_succ]
  refine wpAnyN_tk (i := 6) (v := ?_) rfl (by kernel_rfl) (fun _ _ _ h => h) (Or.inl ⟨by rfl, ?_⟩) (by assumption) ?_
  rotate_left
  · intro w hSw; ((try dsimp only at hSw); go_simp; (try with_reducible rfl))
  simp only [Act.put, List.setIfInBounds_toArray, List.set_cons_zero, List.set_cons_succ]
  refine wpAnyN_tk (i := 7) (v := ?_) rfl (by kernel_rfl) (fun _ _ _ h => h) (Or.inl ⟨by rfl, ?_⟩) (by assumption) ?_
  rotate_left
  · intro w hSw; ((try dsimp only at hSw); go_simp; (try with_reducible rfl))
  simp only [Act.put, List.setIfInBounds_toArray, List.set_cons_zero, List.set_cons_succ]
  refine wpAnyN_tk (i := 8) (v := ?_) rfl (by kernel_rfl) (fun _ _ _ h => h) (Or.inl ⟨by rfl, ?_⟩) (by assumption) ?_
  rotate_left
  · intro w hSw; ((try dsimp only at hSw); go_simp; (try with_reducible rfl))
  simp only [Act.put, List.setIfInBounds_toArray, List.set_cons_zero, List.set_cons_succ]
  refine wpAnyN_tk (i := 9) (v := ?_) rfl (by kernel_rfl) (fun _ _ _ h => h) (Or.inl ⟨by rfl, ?_⟩) (by assumption) ?_
  rotate_left
  · intro w hSw; ((try dsimp only at hSw); go_simp; (try with_reducible rfl))
  simp only [Act.put, List.setIfInBounds_toArray, List.set_cons_zero, List.set_cons_succ]
  refine wpAnyN_tk (i := 10) (v := ?_) rfl (by kernel_rfl) (fun _ _ _ h => h) (Or.inl ⟨by rfl, ?_⟩) (by assumption) ?_
  rotate_left
  · intro w hSw; ((try dsimp only at hSw); go_simp; (try with_reducible rfl))
  simp only [Act.put, List.setIfInBounds_toArray, List.set_cons_zero, List.set_cons_succ]
  refine wpAnyN_done (by kernel_rfl) ?_ _
  go_wp2_with fail
  go_ret
  refine ⟨_, o, rfl, hst, ?_⟩
  show Value.int .i64 (IntKind.i64.wrap (480 * IntKind.i64.wrap ((m.n : Int) - (m.end' : Int)))) = _
  rw [wrap_i64 (n := (m.n : Int) - (m.end' : Int)) (by omega) (by omega), wrap_i64 (by omega) (by omega)]


/-- A log and its disk. -/
def LD (w : World) (o : Own) (L D p pd : Nat) (s : LogM × DiskM) : Prop := LogAt w o L p pd s.1 ∧ DiskAt w o D pd s.2
theorem LD.step {T : Nat → Prop} {w w' : World} {o o' : Own} {L D p pd : Nat} {s : LogM × DiskM} (h : LD w o L D p pd s) (st : Step T w o w' o') (hL : ¬ T L) (hD : ¬ T D) (h0 : ¬ T 0) : LD w' o' L D p pd s :=
  ⟨h.1.step st hL h0, h.2.step st hD⟩
theorem Step.inL {L D : Nat} {w w' : World} {o o' : Own} (h : Step (Only L) w o w' o') : Step (In L D) w o w' o' := h.mono fun _ x => .inl x
theorem Step.inD {L D : Nat} {w w' : World} {o o' : Own} (h : Step (Only D) w o w' o') : Step (In L D) w o w' o' := h.mono fun _ x => .inr x
theorem Step.in0 {L D : Nat} {w w' : World} {o o' : Own} (h : Step Nobody w o w' o') : Step (In L D) w o w' o' := h.mono fun _ x => x.elim

/-- What a row of steps comes to: the states st, the errors er. -/
def LogM.goes (st : Nat → LogM × DiskM) (er : Nat → Int) : Nat → Nat → (LogM × DiskM) × Int
  | i, 0 => (st i, 0)
  | i, n + 1 => if er i ≠ 0 then (({ (st (i + 1)).1 with dead := (st (i + 1)).1.dead || er i == 9 }, (st (i + 1)).2), er i) else LogM.goes st er (i + 1) n
theorem alive_dead {w : World} {o : Own} {L D p pd : Nat} {s : LogM × DiskM} (h : LD w o L D p pd s) (hd : (s.1.dead || s.2.dead) = true) (sa : Option Addr) (sn sc : Nat) :
    Calls Try.prog 81 #[.pointer (some ⟨p, 0, none⟩), .slice sa sn sc] w (Ret Nobody w o fun v _w' _o' => v = .int .i64 9) := by
  obtain ⟨rv, vs, ⟨c0, -, -, -, -, -, -, c7⟩, -⟩ := h.1.open
  have hdd := dead_any h.2
  cases h7 : s.1.dead with
  | true =>
    rw [h7] at c7
    go_enter Try.func81, Try.ntmps81
    go_wp2_with fail
    go_ret
    exact ⟨_, o, rfl, Step.refl _ _ _, rfl⟩
  | false =>
    rw [h7] at c7 hd
    simp only [Bool.false_or] at hd
    rw [hd] at hdd
    clear hd h7
    go_enter Try.func81, Try.ntmps81
    go_wp2_with fail
    refine hdd.mono ?_; rintro e w' ⟨rfl, rfl⟩
    go_wp2_with fail
    go_ret
    exact ⟨_, o, rfl, Step.refl _ _ _, rfl⟩

theorem LD.killed {w : World} {o : Own} {L D p pd : Nat} {s : LogM × DiskM} (h : LD w o L D p pd s) (hL : L ≠ 0) (hLD : L ≠ D) (b : Bool) :
    LD (w.setCell ⟨p, 7, none⟩ (.bool b)) o L D p pd ({ s.1 with dead := b }, s.2) ∧ Step (In L D) w o (w.setCell ⟨p, 7, none⟩ (.bool b)) o := by
  have hs := h.1.setStep 7 (.bool b)
  exact ⟨⟨h.1.set hL 7 (.bool b) (fun rv => rfl) rfl h.1.wf, h.2.step hs (fun e => hLD e.symm)⟩, hs.inL⟩
set_option maxRecDepth 100000 in
set_option maxHeartbeats 3200000 in
theorem alive_any {w : World} {o : Own} {L D p pd : Nat} (hL : L ≠ 0) (hD : D ≠ 0) (hLD : L ≠ D) (st : Nat → LogM × DiskM) (er : Nat → Int) (h : LD w o L D p pd (st 0)) (hd : ((st 0).1.dead || (st 0).2.dead) = false)
    (n : Nat) (hn : n ≤ 1000) (fsl : List Value) (hfl : fsl.length = n) (fid : Nat → Nat) (bd cp : Nat → Array Value) (hfs : ∀ i, i < n → fsl[i]? = some (.func (.func (fid i)) (bd i) (cp i)))
    (hcall : ∀ i (args : Array Value) (x : World), i < n → (callFunc (fid i) args).run Try.prog x = .ok (.enter (fid i) args) x)
    (sa : Option Addr) (sc : Nat) (hsv : Slc w o (.slice sa n sc) n fsl)
    (hstep : ∀ i, i < n → (∀ j, j < i → er j = 0) → ∀ w1 o1, Step (In L D) w o w1 o1 → LD w1 o1 L D p pd (st i) →
      Calls Try.prog (fid i) (bd i ++ cp i) w1 (Ret (In L D) w1 o1 fun v w' o' => v = .int .i64 (er i) ∧ LD w' o' L D p pd (st (i + 1)))) :
    Calls Try.prog 81 #[.pointer (some ⟨p, 0, none⟩), .slice sa n sc] w (Ret (In L D) w o fun v w' o' => v = .int .i64 (LogM.goes st er 0 n).2 ∧ LD w' o' L D p pd (LogM.goes st er 0 n).1) := by
  have hN : ¬ In L D 0 := fun h => by rcases h with h | h <;> omega
  obtain ⟨rv, vs, ⟨c0, -, -, -, -, -, -, c7⟩, -⟩ := h.1.open
  have hdd := dead_any h.2
  simp only [Bool.or_eq_false_iff] at hd
  rw [hd.1] at c7
  rw [hd.2] at hdd
  clear hd
  have hgo : ∀ k, k ≤ n → (∀ j, j < k → er j = 0) → LogM.goes st er 0 n = LogM.goes st er k (n - k) := by
    intro k
    induction k with
    | zero => intro _ _; rfl
    | succ k ih =>
      intro hk hj
      rw [ih (by omega) (fun j hj' => hj j (by omega))]
      obtain ⟨m, hm⟩ : ∃ m, n - k = m + 1 := ⟨n - k - 1, by omega⟩
      rw [hm, show n - (k + 1) = m from by omega]
      conv => lhs; unfold LogM.goes
      rw [if_neg (by have := hj k (by omega); omega)]
  have hgoH := hidden hgo
  have hfsH := hidden hfs
  have hcallH := hidden hcall
  have hstepH := hidden hstep
  clear hgo hfs hcall hstep hfl
  go_enter Try.func81, Try.ntmps81
  go_wp2_with fail
  refine hdd.mono ?_; rintro e w' ⟨rfl, rfl⟩
  clear hdd
  go_wp2_with fail
  go_loopw [23] (fun i wr => ∃ k : Nat, k ≤ n ∧ i = .int .i64 k ∧ Hid (∀ j, j < k → er j = 0) ∧ ∃ o', Step (In L D) w o wr o' ∧ LD wr o' L D p pd (st k)) (fun i _ => n - (intOf i).toNat)
  case atStart => exact ⟨0, Nat.zero_le _, rfl, hidden (fun j hj => by omega), o, Step.refl _ _ _, h⟩
  case round =>
    clear c0 c7
    obtain ⟨k, hk, rfl, hj, o', hst, hld⟩ := hrel
    by_cases hlt : k < n
    · obtain ⟨b, off, rfl, hc, hbl, hbo⟩ := hsv.cell k (hfsH.out k hlt)
      have hcr : wr.cell? ⟨b, off + k, none⟩ = some (.func (.func (fid k)) (bd k) (cp k)) := by
        rw [World.cell?_of_block (a := ⟨b, off + k, none⟩) (hst.block b hbl (by rw [hbo]; exact hN))]; exact hc
      have hck := fun args x => hcallH.out k args x hlt
      have hs1 := hstepH.out k hlt hj.out wr o' hst hld
      go_wp2_with fail
      refine hs1.mono ?_; rintro e w1 ⟨v1, o1, rfl, hst1, rfl, hld1⟩
      have hst2 := hst.trans hst1
      by_cases he : er k = 0
      · have hjn : Hid (∀ j, j < k + 1 → er j = 0) := hidden fun j hj' => by
          by_cases hjk : j = k
          · subst hjk; exact he
          · exact hj.out j (by omega)
        rw [he]
        clear he hs1 hst hst1 hld
        go_wp2_with fail
        go_roundw
        case rel => exact ⟨k + 1, hlt, by go_num, hjn, o1, hst2, hld1⟩
        case measure => simp [intOf]; omega
      · have hne : (er k != 0) = true := by simpa using he
        have hE : LogM.goes st er 0 n = (({ (st (k + 1)).1 with dead := (st (k + 1)).1.dead || er k == 9 }, (st (k + 1)).2), er k) := by
          rw [hgoH.out k hk hj.out]
          obtain ⟨m, hm⟩ : ∃ m, n - k = m + 1 := ⟨n - k - 1, by omega⟩
          rw [hm]; unfold LogM.goes; rw [if_pos he]
        have hEH := hidden hE
        obtain ⟨rv1, vs1, ⟨-, -, -, -, -, -, -, d7⟩, hf1, -⟩ := hld1.1.open
        have d7f := hf1 7
        have hk1 := hld1.killed hL hLD
        generalize hek : er k = e1 at *
        generalize hsk : st (k + 1) = s1 at *
        clear hsk hek he hE hs1 hld hst hst1 hf1 hlt
        have fin : ∀ (w' : World) (o' : Own) (b : Bool), Hid (b = (s1.1.dead || e1 == 9)) → Hid (Step (In L D) w o w' o' ∧ LD w' o' L D p pd ({ s1.1 with dead := b }, s1.2)) →
            Ret (In L D) w o (fun v w' o' => v = .int .i64 (LogM.goes st er 0 n).2 ∧ LD w' o' L D p pd (LogM.goes st er 0 n).1) (.returned (.int .i64 e1)) w' := fun w' o' b hb hh => by
          rw [hEH.out]
          have h2 := hh.out
          rw [hb.out] at h2
          exact ⟨_, o', rfl, h2.1, rfl, h2.2⟩
        cases hdd : s1.1.dead with
        | true =>
          rw [hdd] at d7 fin
          have hq := hk1 true
          have hqH := hidden (show Step (In L D) w o _ o1 ∧ _ from ⟨hst2.trans hq.2, hq.1⟩)
          clear hq hk1 hst2 hdd hld1
          go_wp2_with fail
          go_ret
          exact fin _ _ true (hidden rfl) hqH
        | false =>
          rw [hdd] at d7 fin
          by_cases h9 : e1 = 9
          · subst h9
            have hq := hk1 true
            have hqH := hidden (show Step (In L D) w o _ o1 ∧ _ from ⟨hst2.trans hq.2, hq.1⟩)
            clear hq hk1 hst2 hdd hld1
            go_wp2_with fail
            go_ret
            exact fin _ _ true (hidden rfl) hqH
          · have h9' : (e1 == 9) = false := by simpa using h9
            have hq := hk1 false
            have hqH := hidden (show Step (In L D) w o _ o1 ∧ _ from ⟨hst2.trans hq.2, hq.1⟩)
            have h9H := hidden h9'
            clear hq hk1 hst2 hdd hld1 h9
            go_wp2_with fail
            go_ret
            exact fin _ _ false (hidden (by rw [h9H.out]; rfl)) hqH
    · obtain rfl : n = k := by omega
      have hE : LogM.goes st er 0 n = (st n, 0) := by rw [hgoH.out n (Nat.le_refl _) hj.out, Nat.sub_self]; rfl
      have hEH := hidden hE
      clear hE
      go_wp2_with fail
      go_ret
      rw [hEH.out]
      exact ⟨_, o', rfl, hst, rfl, hld⟩
end Go.Proofs.YtfgggkheadfiaaaR
/- Contracts: head, and the steps of Commit and Reset but the third. -/
namespace Go.Proofs.YtfgggkheadfiaaaR
open Go Go.RowKit
attribute [local go_sem ↓] Go.wp_at_zero Go.wp_at_succ

theorem DiskM.write_row (d : DiskM) (at' : Int) (l : List UInt8) : (d.write at' l).1.row.length ≤ d.row.length + 1 := by
  unfold DiskM.write
  have := (DiskM.counted_same d (d.asked at' l.length)).2
  dsimp only
  split
  · rw [this]; omega
  · simp only [List.length_append, List.length_cons, List.length_nil]; rw [this]; omega
theorem DiskM.sync_row (d : DiskM) : d.sync.1.row.length ≤ d.row.length := by
  unfold DiskM.sync
  have := (DiskM.counted_same d (d.asked 0 512)).2
  dsimp only
  split
  · rw [this]; omega
  · simp [DiskM.done]
theorem wrap_add1 (x : BitVec 64) : IntKind.u64.wrap ((x.toNat : Int) + 1) = ((x + 1#64).toNat : Int) := by
  rw [BitVec.toNat_add]
  simp only [IntKind.wrap, IntKind.bits, IntKind.signed]
  simp
theorem LogM.wf_stamp {m : LogM} (h : m.wf) (x : BitVec 64) : ({ m with stamp := x } : LogM).wf := h
/-- What is read of a log's struct. -/
def Held (w : World) (p pd : Nat) (m : LogM) : Prop :=
  w.cell? ⟨p, 0, none⟩ = some (.pointer (some ⟨pd, 0, none⟩)) ∧ w.cell? ⟨p, 1, none⟩ = some (.int .i64 (m.first : Int)) ∧ w.cell? ⟨p, 2, none⟩ = some (.int .i64 (m.n : Int)) ∧ w.cell? ⟨p, 3, none⟩ = some (.int .u64 (m.stamp.toNat : Int)) ∧
     w.cell? ⟨p, 4, none⟩ = some (.bool m.headed) ∧ w.cell? ⟨p, 5, none⟩ = some (.int .i64 (m.end' : Int)) ∧ w.cell? ⟨p, 7, none⟩ = some (.bool m.dead)
theorem LogAt.held {w : World} {o : Own} {L p pd : Nat} {m : LogM} (h : LogAt w o L p pd m) : Held w p pd m := by
  obtain ⟨rv, vs, ⟨c0, c1, c2, c3, c4, c5, c6, c7⟩, -⟩ := h.open
  exact ⟨c0, c1, c2, c3, c4, c5, c7⟩

set_option maxRecDepth 100000 in
set_option maxHeartbeats 3200000 in
theorem head_any {w : World} {o : Own} {L D p pd : Nat} (hL : L ≠ 0) (hD : D ≠ 0) (hLD : L ≠ D) {s : LogM × DiskM} (h : LD w o L D p pd s) (hrow : s.2.row.length ≤ 900000) :
    Calls Try.prog 84 #[.pointer (some ⟨p, 0, none⟩)] w (Ret (In L D) w o fun v w' o' => v = .int .i64 (LogM.head s).2 ∧ LD w' o' L D p pd (LogM.head s).1) := by
  obtain ⟨m, d⟩ := s
  obtain ⟨hl, hd⟩ := h
  simp only at hl hd hrow
  have hN : ¬ In L D 0 := fun h => by rcases h with h | h <;> omega
  obtain ⟨d1, e1, hw⟩ : ∃ d1 e1, d.write (m.first : Int) (LeafM.page ⟨m.stamp + 1#64, 0, 0, []⟩) = (d1, e1) := ⟨_, _, rfl⟩
  obtain ⟨d2, e2, hy⟩ : ∃ d2 e2, d1.sync = (d2, e2) := ⟨_, _, rfl⟩
  have hr1 : d1.row.length ≤ 1000000 := by have := DiskM.write_row d (m.first : Int) (LeafM.page ⟨m.stamp + 1#64, 0, 0, []⟩); rw [hw] at this; simp only at this; omega
  have hE : LogM.head (m, d) = if e1 ≠ 0 then (({ m with stamp := m.stamp + 1#64 }, d1), e1) else (({ m with stamp := m.stamp + 1#64 }, d2), e2) := by
    unfold LogM.head
    simp only [hw, hy]
  have hEH := hidden hE
  clear hE
  have hl1 := hl.set (m' := { m with stamp := m.stamp + 1#64 }) hL 3 (.int .u64 ((m.stamp + 1#64).toNat : Int)) (fun rv => rfl) rfl (LogM.wf_stamp hl.wf _)
  have hs1 := hl.setStep 3 (.int .u64 ((m.stamp + 1#64).toNat : Int))
  have hd1 := hd.step hs1 (fun e => hLD e.symm)
  obtain ⟨rv, vs, ⟨c0, c1, c2, c3, c4, c5, c6, c7⟩, hf, -⟩ := hl.open
  have f3 := hf 3
  have hwr := wrap_add1 m.stamp
  have hplt := hl.lt
  clear hf c0 c1 c2 c4 c5 c6 c7 hl hd
  obtain ⟨st, hst⟩ : ∃ st, m.stamp + 1#64 = st := ⟨_, rfl⟩
  rw [hst] at hw hEH hl1 hs1 hd1 hwr
  clear hst
  go_enter Try.func84, Try.ntmps84
  go_wp2_with fail
  obtain ⟨W, hW⟩ : ∃ W, w.setCell ⟨p, 3, none⟩ (.int .u64 (st.toNat : Int)) = W := ⟨_, rfl⟩
  rw [hW] at hl1 hs1 hd1 ⊢
  have hWs : w.heap.size = W.heap.size := by rw [← hW]; simp
  clear hW c3 f3 hwr
  have hh := hl1.held
  obtain ⟨h0, h1, h2, h3, h4, h5, h7⟩ := hh
  simp only at h0 h1 h2 h3 h4 h5 h7
  refine wp_region_need (fun w' => w'.cell? ⟨p, 0, none⟩ = some (.pointer (some ⟨pd, 0, none⟩)) ∧ w'.cell? ⟨p, 1, none⟩ = some (.int .i64 (m.first : Int)) ∧ w'.cell? ⟨p, 3, none⟩ = some (.int .u64 (st.toNat : Int))) (fun _ => true) (by kernel_rfl) ⟨h0, h1, h3⟩ (fun hHeld => ?_)
  refine wpAnyN_tk (i := 0) (v := ?_) rfl (by kernel_rfl) (fun _ _ _ h => h) (Or.inl ⟨by rfl, ?_⟩) (by assumption) ?_
  rotate_left
  · intro w hSw; ((try dsimp only at hSw); go_simp; (try with_reducible rfl))
  simp only [Act.put, List.setIfInBounds_toArray, List.set_cons_zero, List.set_cons_succ]
  refine wpAnyN_tk (i := 1) (v := ?_) rfl (by kernel_rfl) (fun _ _ _ h => h) (Or.inl ⟨by rfl, ?_⟩) (by assumption) ?_
  rotate_left
  · intro w hSw; ((try dsimp only at hSw); go_simp; (try with_reducible rfl))
  simp only [Act.put, List.setIfInBounds_toArray, List.set_cons_zero, List.set_cons_succ]
  refine wpAnyN_tk (i := 2) (v := ?_) rfl (by kernel_rfl) (fun _ _ _ h => h) (Or.inl ⟨by rfl, ?_⟩) (by assumption) ?_
  rotate_left
  · intro w hSw; ((try dsimp only at hSw); go_simp; (try with_reducible rfl))
  simp only [Act.put, List.setIfInBounds_toArray, List.set_cons_zero, List.set_cons_succ]
  refine wpAnyN_tk (i := 3) (v := ?_) rfl (by kernel_rfl) (fun _ _ _ h => h) (Or.inl ⟨by rfl, ?_⟩) (by assumption) ?_
  rotate_left
  · intro w hSw; ((try dsimp only at hSw); go_simp; (try with_reducible rfl))
  simp only [Act.put, List.setIfInBounds_toArray, List.set_cons_zero, List.set_cons_succ]
  refine wpAnyN_tk (i := 4) (v := ?_) rfl (by kernel_rfl) (fun _ _ _ h => h) (Or.inl ⟨by rfl, ?_⟩) (by assumption) ?_
  rotate_left
  · intro w hSw; ((try dsimp only at hSw); go_simp; (try with_reducible rfl))
  simp only [Act.put, List.setIfInBounds_toArray, List.set_cons_zero, List.set_cons_succ]
  refine wpAnyN_tk (i := 5) (v := ?_) rfl (by kernel_rfl) (fun _ _ _ h => h) (Or.inl ⟨by rfl, ?_⟩) (by assumption) ?_
  rotate_left
  · intro w hSw; ((try dsimp only at hSw); go_simp; (try with_reducible rfl))
  simp only [Act.put, List.setIfInBounds_toArray, List.set_cons_zero, List.set_cons_succ]
  refine wpAnyN_tk (i := 6) (v := ?_) rfl (by kernel_rfl) (fun _ _ _ h => h) (Or.inl ⟨by rfl, ?_⟩) (by assumption) ?_
  rotate_left
  · intro w hSw; ((try dsimp only at hSw); go_simp; (try with_reducible rfl))
  simp only [Act.put, List.setIfInBounds_toArray, List.set_cons_zero, List.set_cons_succ]
  refine wpAnyN_tk (i := 7) (v := ?_) rfl (by kernel_rfl) (fun _ _ _ h => h) (Or.inl ⟨by rfl, ?_⟩) (by assumption) ?_
  rotate_left
  · intro w hSw; ((try dsimp only at hSw); go_simp; (try with_reducible rfl))
  simp only [Act.put, List.setIfInBounds_toArray, List.set_cons_zero, List.set_cons_succ]
  refine wpAnyN_tk (i := 8) (v := ?_) rfl (by kernel_rfl) (fun _ _ _ h => h) (Or.inl ⟨by rfl, ?_⟩) (by assumption) ?_
  rotate_left
  · intro w hSw; ((try dsimp only at hSw); go_simp; (try with_reducible rfl))
  simp only [Act.put, List.setIfInBounds_toArray, List.set_cons_zero, List.set_cons_succ]
  refine wpAnyN_tk (i := 9) (v := ?_) rfl (by kernel_rfl) (fun _ _ _ h => h) (Or.inl ⟨by rfl, ?_⟩) (by assumption) ?_
  rotate_left
  · intro w hSw; ((try dsimp only at hSw); go_simp; (try with_reducible rfl))
  simp only [Act.put, List.setIfInBounds_toArray, List.set_cons_zero, List.set_cons_succ]
  refine wpAnyN_tk (i := 10) (v := ?_) rfl (by kernel_rfl) (fun _ _ _ h => h) (Or.inl ⟨by rfl, ?_⟩) (by assumption) ?_
  rotate_left
  · intro w hSw; ((try dsimp only at hSw); go_simp; (try with_reducible rfl))
  simp only [Act.put, List.setIfInBounds_toArray, List.set_cons_zero, List.set_cons_succ]
  refine wpAnyN_tk (i := 11) (v := ?_) rfl (by kernel_rfl) (fun _ _ _ h => h) (Or.inl ⟨by rfl, ?_⟩) (by assumption) ?_
  rotate_left
  · intro w hSw; ((try dsimp only at hSw); go_simp; (try with_reducible rfl))
  simp only [Act.put, List.setIfInBounds_toArray, List.set_cons_zero, List.set_cons_succ]
  refine wpAnyN_tk (i := 12) (v := ?_) rfl (by kernel_rfl) (fun _ _ _ h => h) (Or.inl ⟨by rfl, ?_⟩) (by assumption) ?_
  rotate_left
  · intro w hSw; ((try dsimp only at hSw); go_simp; (try with_reducible rfl))
  simp only [Act.put, List.setIfInBounds_toArray, List.set_cons_zero, List.set_cons_succ]
  have hdr : Step Nobody W o W.drew o := (Step.refl _ _ _).drew
  have hl2 := hl1.step hdr (fun h => h) (fun h => h)
  have hd2 := hd1.step hdr (fun h => h)
  have hs2 := (hs1.inL (D := D)).trans hdr.in0
  have hpage := page_any (w := W.drew) (o := o) (bv := .slice none 0 0) ⟨st, 0, 0, []⟩ (Bytes.nil _ _) (by simp) (by simp) (by simp)
  clear hl1 hd1 hs1 h0 h1 h2 h3 h4 h5 h7
  refine wpAnyN_one (i := 13) rfl (by kernel_rfl) ?_
  go_wp2_with fail
  refine hpage.mono ?_; rintro e W6 ⟨v6, o6, rfl, hs6, hn6⟩
  have hl3 := hl2.step hs6 (fun h => h) (fun h => h)
  have hd3 := hd2.step hs6 (fun h => h)
  have hs3 := hs2.trans hs6.in0
  have hp6 := hn6.bytes
  have hpl : p < W.drew.heap.size := by show p < W.heap.size; omega
  have e6 := hs6.block p hpl (fun h => h)
  have hS6 : W6.cell? ⟨p, 0, none⟩ = some (.pointer (some ⟨pd, 0, none⟩)) ∧ W6.cell? ⟨p, 1, none⟩ = some (.int .i64 (m.first : Int)) ∧ W6.cell? ⟨p, 3, none⟩ = some (.int .u64 (st.toNat : Int)) :=
    ⟨(World.cell?_of_block (a := ⟨p, 0, none⟩) e6).trans hHeld.1, (World.cell?_of_block (a := ⟨p, 1, none⟩) e6).trans hHeld.2.1, (World.cell?_of_block (a := ⟨p, 3, none⟩) e6).trans hHeld.2.2⟩
  have hwr := write_is hd3 hD (by omega) (m.first : Int) v6 _ hp6 hw
  clear hpage hn6 hs6 hl2 hd2 hs2 hdr hp6
  go_wp2_with fail
  refine ⟨fun _ => hS6, ?_⟩
  refine wpAnyN_one (i := 14) rfl (by kernel_rfl) ?_
  go_wp2_with fail
  refine hwr.mono ?_; rintro e W7 ⟨v7, o7, rfl, hs7, rfl, hd7⟩
  have hpL : (o6 p).1 = L := hl3.ofL
  have hpl6 := hl3.lt
  have e7 := hs7.block p hpl6 (by rw [hpL]; exact fun e => hLD e)
  have hS7 : W7.cell? ⟨p, 0, none⟩ = some (.pointer (some ⟨pd, 0, none⟩)) ∧ W7.cell? ⟨p, 1, none⟩ = some (.int .i64 (m.first : Int)) ∧ W7.cell? ⟨p, 3, none⟩ = some (.int .u64 (st.toNat : Int)) :=
    ⟨(World.cell?_of_block (a := ⟨p, 0, none⟩) e7).trans hS6.1, (World.cell?_of_block (a := ⟨p, 1, none⟩) e7).trans hS6.2.1, (World.cell?_of_block (a := ⟨p, 3, none⟩) e7).trans hS6.2.2⟩
  have hl7 := hl3.step hs7 (fun e => hLD e) (fun e => hD e.symm)
  have hs8 := hs3.trans hs7.inD
  clear hl3 hd3 hs3 hs7 hwr hHeld e6 e7
  go_wp2_with fail
  refine ⟨fun _ => hS7, ?_⟩
  refine wpAnyN_one (i := 15) rfl (by kernel_rfl) ?_
  go_wp2_with fail
  refine ⟨fun _ => hS7, ?_⟩
  refine wpAnyN_done (by kernel_rfl) ?_ _
  have q0 := hS7.1
  clear hS7 hS6
  by_cases he : e1 = 0
  · subst he
    have hsy := sync_is hd7 hr1 hy
    rw [if_neg (by simp)] at hEH
    clear hy hw
    go_wp2_with fail
    refine hsy.mono ?_; rintro e W8 ⟨v8, o8, rfl, hs9, rfl, hd8⟩
    go_wp2_with fail
    go_ret
    rw [hEH.out]
    exact ⟨_, o8, rfl, hs8.trans hs9.inD, rfl, hl7.step hs9 (fun e => hLD e) (fun e => hD e.symm), hd8⟩
  · have hne : (e1 != 0) = true := by simpa using he
    rw [if_pos he] at hEH
    clear he hy hw
    go_wp2_with fail
    go_ret
    rw [hEH.out]
    exact ⟨_, o7, rfl, hs8, rfl, hl7, hd7⟩
end Go.Proofs.YtfgggkheadfiaaaR
/- Contracts: the steps of Commit and Reset but the third. -/
namespace Go.Proofs.YtfgggkheadfiaaaR
open Go Go.RowKit
attribute [local go_sem ↓] Go.wp_at_zero Go.wp_at_succ

/-- A variable that a function value has captured: plain data. -/
def Box (w : World) (o : Own) (b : Nat) (t : TypeId) (v : Value) : Prop := w.heap[b]? = some (.cells #[v] t (0, 0)) ∧ (o b).1 = 0
theorem Box.step {T : Nat → Prop} {w w' : World} {o o' : Own} {b : Nat} {t : TypeId} {v : Value} (h : Box w o b t v) (s : Step T w o w' o') (hT : ¬ T 0) : Box w' o' b t v :=
  ⟨by rw [s.block b (lt_of_block h.1) (by rw [h.2]; exact hT)]; exact h.1, by rw [s.own b (lt_of_block h.1)]; exact h.2⟩
theorem Box.cell {w : World} {o : Own} {b : Nat} {t : TypeId} {v : Value} (h : Box w o b t v) : w.cell? ⟨b, 0, none⟩ = some v := cell_of_one h.1
theorem Box.new (w : World) (o : Own) (t : TypeId) (v : Value) : Box (w.alloc (.cells #[v] t)) (tagAt o w.heap.size (0, 0)) w.heap.size t v := ⟨heap_alloc_new w _, by rw [tagAt_same]⟩
section
variable {w : World} {o : Own} {L D p pd : Nat} {s : LogM × DiskM}

set_option maxRecDepth 100000 in
set_option maxHeartbeats 3200000 in
theorem step1_any (h : LD w o L D p pd s) (b : List UInt8) (_hmany : LogM.many b ≤ 1000000000000) (bm bl : Nat) (hm : Box w o bm 3 (.int .i64 (LogM.many b : Int))) (hl : Box w o bl 57 (.pointer (some ⟨p, 0, none⟩))) :
    Calls Try.prog 82 #[.pointer (some ⟨bm, 0, none⟩), .pointer (some ⟨bl, 0, none⟩)] w (Ret (In L D) w o fun v w' o' => v = .int .i64 (LogM.step1 b s).2 ∧ LD w' o' L D p pd (LogM.step1 b s).1) := by
  obtain ⟨c0, c1, c2, c3, c4, c5, c7⟩ := h.1.held
  obtain ⟨g1, g2, g3, g4, g5, -⟩ := h.1.wf
  have cm := hm.cell
  have cl := hl.cell
  have hst : Step (In L D) w o w.drew o := (Step.refl _ w o).drew
  have hld := h.step ((Step.refl Nobody w o).drew) (fun h => h) (fun h => h) (fun h => h)
  have hsub : ((s.1.n : Int) - (s.1.end' : Int)) = ((s.1.n - s.1.end' : Nat) : Int) := by omega
  have hE : LogM.step1 b s = if s.1.n - s.1.end' < LogM.many b then (s, 4) else (s, 0) := rfl
  have hEH := hidden hE
  clear hE c0 c1 c3 c4 c7 h hm hl
  generalize s.1.n = n at *
  generalize s.1.end' = e at *
  generalize LogM.many b = m at *
  go_enter Try.func82, Try.ntmps82
  go_wp2_with fail
  refine wp_region_need (fun w' => w'.cell? ⟨p, 2, none⟩ = some (.int .i64 (n : Int)) ∧ w'.cell? ⟨p, 5, none⟩ = some (.int .i64 (e : Int)) ∧ w'.cell? ⟨bm, 0, none⟩ = some (.int .i64 (m : Int)) ∧ w'.cell? ⟨bl, 0, none⟩ = some (.pointer (some ⟨p, 0, none⟩))) (fun _ => true) (by kernel_rfl) ⟨c2, c5, cm, cl⟩ (fun hHeld => ?_)
  refine wpAnyN_tk (i := 0) (v := ?_) rfl (by kernel_rfl) (fun _ _ _ h => h) (Or.inl ⟨by rfl, ?_⟩) (by assumption) ?_
  rotate_left
  · intro w hSw; ((try dsimp only at hSw); go_simp; (try with_reducible rfl))
  simp only [Act.put, List.setIfInBounds_toArray, List.set_cons_zero, List.set_cons_succ]
  refine wpAnyN_tk (i := 1) (v := ?_) rfl (by kernel_rfl) (fun _ _ _ h => h) (Or.inl ⟨by rfl, ?_⟩) (by assumption) ?_
  rotate_left
  · intro w hSw; ((try dsimp only at hSw); go_simp; (try with_reducible rfl))
  simp only [Act.put, List.setIfInBounds_toArray, List.set_cons_zero, List.set_cons_succ]
  refine wpAnyN_tk (i := 2) (v := ?_) rfl (by kernel_rfl) (fun _ _ _ h => h) (Or.inl ⟨by rfl, ?_⟩) (by assumption) ?_
  rotate_left
  · intro w hSw; ((try dsimp only at hSw); go_simp; (try with_reducible rfl))
  simp only [Act.put, List.setIfInBounds_toArray, List.set_cons_zero, List.set_cons_succ]
  refine wpAnyN_tk (i := 3) (v := ?_) rfl (by kernel_rfl) (fun _ _ _ h => h) (Or.inl ⟨by rfl, ?_⟩) (by assumption) ?_
  rotate_left
  · intro w hSw; ((try dsimp only at hSw); go_simp; (try with_reducible rfl))
  simp only [Act.put, List.setIfInBounds_toArray, List.set_cons_zero, List.set_cons_succ]
  refine wpAnyN_tk (i := 4) (v := ?_) rfl (by kernel_rfl) (fun _ _ _ h => h) (Or.inl ⟨by rfl, ?_⟩) (by assumption) ?_
  rotate_left
  · intro w hSw; ((try dsimp only at hSw); go_simp; (try with_reducible rfl))
  simp only [Act.put, List.setIfInBounds_toArray, List.set_cons_zero, List.set_cons_succ]
  refine wpAnyN_tk (i := 5) (v := ?_) rfl (by kernel_rfl) (fun _ _ _ h => h) (Or.inl ⟨by rfl, ?_⟩) (by assumption) ?_
  rotate_left
  · intro w hSw; ((try dsimp only at hSw); go_simp; (try with_reducible rfl))
  simp only [Act.put, List.setIfInBounds_toArray, List.set_cons_zero, List.set_cons_succ]
  refine wpAnyN_tk (i := 6) (v := ?_) rfl (by kernel_rfl) (fun _ _ _ h => h) (Or.inl ⟨by rfl, ?_⟩) (by assumption) ?_
  rotate_left
  · intro w hSw; ((try dsimp only at hSw); go_simp; (try with_reducible rfl))
  simp only [Act.put, List.setIfInBounds_toArray, List.set_cons_zero, List.set_cons_succ]
  refine wpAnyN_tk (i := 7) (v := ?_) rfl (by kernel_rfl) (fun _ _ _ h => h) (Or.inl ⟨by rfl, ?_⟩) (by assumption) ?_
  rotate_left
  · intro w hSw; ((try dsimp only at hSw); go_simp; (try with_reducible rfl))
  simp only [Act.put, List.setIfInBounds_toArray, List.set_cons_zero, List.set_cons_succ]
  refine wpAnyN_tk (i := 8) (v := ?_) rfl (by kernel_rfl) (fun _ _ _ h => h) (Or.inl ⟨by rfl, ?_⟩) (by assumption) ?_
  rotate_left
  · intro w hSw; ((try dsimp only at hSw); go_simp; (try with_reducible rfl))
  simp only [Act.put, List.setIfInBounds_toArray, List.set_cons_zero, List.set_cons_succ]
  refine wpAnyN_tk (i := 9) (v := ?_) rfl (by kernel_rfl) (fun _ _ _ h => h) (Or.inl ⟨by rfl, ?_⟩) (by assumption) ?_
  rotate_left
  · intro w hSw; ((try dsimp only at hSw); go_simp; (try with_reducible rfl))
  simp only [Act.put, List.setIfInBounds_toArray, List.set_cons_zero, List.set_cons_succ]
  refine wpAnyN_tk (i := 10) (v := ?_) rfl (by kernel_rfl) (fun _ _ _ h => h) (Or.inl ⟨by rfl, ?_⟩) (by assumption) ?_
  rotate_left
  · intro w hSw; ((try dsimp only at hSw); go_simp; (try with_reducible rfl))
  simp only [Act.put, List.setIfInBounds_toArray, List.set_cons_zero, List.set_cons_succ]
  refine wpAnyN_done (by kernel_rfl) ?_ _
  rw [wrap_i64 (n := ((n - e : Nat) : Int)) (by omega) (by omega)]
  clear hHeld c2 c5 cm cl hsub
  by_cases hlt : n - e < m
  · rw [if_pos hlt] at hEH
    have hd : decide (((n - e : Nat) : Int) < (m : Int)) = true := by simp; omega
    rw [hd]
    clear hd
    go_wp2_with fail
    go_ret
    rw [hEH.out]
    exact ⟨_, o, rfl, hst, rfl, hld⟩
  · rw [if_neg hlt] at hEH
    have hd : decide (((n - e : Nat) : Int) < (m : Int)) = false := by simp; omega
    rw [hd]
    clear hd
    go_wp2_with fail
    go_ret
    rw [hEH.out]
    exact ⟨_, o, rfl, hst, rfl, hld⟩

set_option maxRecDepth 100000 in
set_option maxHeartbeats 3200000 in
theorem step2_any (hL : L ≠ 0) (hD : D ≠ 0) (hLD : L ≠ D) (h : LD w o L D p pd s) (hrow : s.2.row.length ≤ 900000) (bl : Nat) (hl : Box w o bl 57 (.pointer (some ⟨p, 0, none⟩))) :
    Calls Try.prog 83 #[.pointer (some ⟨bl, 0, none⟩)] w (Ret (In L D) w o fun v w' o' => v = .int .i64 (LogM.step2 s).2 ∧ LD w' o' L D p pd (LogM.step2 s).1) := by
  have hN : ¬ In L D 0 := fun h => by rcases h with h | h <;> omega
  obtain ⟨c0, c1, c2, c3, c4, c5, c7⟩ := h.1.held
  have cl := hl.cell
  have hE : LogM.step2 s = if s.1.headed then (s, 0) else (({ (LogM.head s).1.1 with headed := (LogM.head s).2 == 0 }, (LogM.head s).1.2), (LogM.head s).2) := by unfold LogM.step2; rfl
  have hEH := hidden hE
  have hh := head_any hL hD hLD h hrow
  clear hE c0 c1 c2 c3 c5 c7
  cases hd : s.1.headed with
  | true =>
    rw [hd] at c4 hEH
    rw [if_pos rfl] at hEH
    go_enter Try.func83, Try.ntmps83
    go_wp2_with fail
    go_ret
    rw [hEH.out]
    exact ⟨_, o, rfl, Step.refl _ _ _, rfl, h⟩
  | false =>
    rw [hd] at c4 hEH
    rw [if_neg (by simp)] at hEH
    obtain ⟨r, hr⟩ : ∃ r, LogM.head s = r := ⟨_, rfl⟩
    rw [hr] at hEH hh
    clear hr hd
    go_enter Try.func83, Try.ntmps83
    go_wp2_with fail
    refine hh.mono ?_; rintro e w1 ⟨v1, o1, rfl, hs1, rfl, hld1⟩
    have cl1 := (hl.step hs1 hN).cell
    obtain ⟨rv, vs, -, hf, -⟩ := hld1.1.open
    obtain ⟨-, -, -, -, d4, -⟩ := hld1.1.held
    have f4 := hf 4
    have hset := hld1.1.set (m' := { r.1.1 with headed := r.2 == 0 }) hL 4 (.bool (r.2 == 0)) (fun rv => rfl) rfl hld1.1.wf
    have hst4 := hld1.1.setStep 4 (.bool (r.2 == 0))
    have hd4 := hld1.2.step hst4 (fun e => hLD e.symm)
    have hs2 := hs1.trans hst4.inL
    clear hf hh hs1 hst4 hld1 c4 cl
    obtain ⟨⟨m1, d1⟩, e1⟩ := r
    simp only at hset hd4 hs2 hEH d4
    go_wp2_with fail
    go_ret
    rw [hEH.out]
    exact ⟨_, o1, rfl, hs2, rfl, hset, hd4⟩

set_option maxRecDepth 100000 in
set_option maxHeartbeats 3200000 in
theorem reset2_any (hL : L ≠ 0) (hLD : L ≠ D) (h : LD w o L D p pd s) (bl : Nat) (hl : Box w o bl 57 (.pointer (some ⟨p, 0, none⟩))) :
    Calls Try.prog 93 #[.pointer (some ⟨bl, 0, none⟩)] w (Ret (In L D) w o fun v w' o' => v = .int .i64 (LogM.reset2 s).2 ∧ LD w' o' L D p pd (LogM.reset2 s).1) := by
  obtain ⟨m, d⟩ := s
  obtain ⟨hlg, hdk⟩ := h
  simp only at hlg hdk
  have hwf := hlg.wf
  have cl := hl.cell
  have hblp : bl ≠ p := by rintro rfl; have h1 := hl.2; have h2 := hlg.ofL; omega
  have hpl := hlg.lt
  have hfin : Hid (LogAt ((((w.drew.setCell ⟨p, 4, none⟩ (.bool true)).setCell ⟨p, 6, none⟩ (.slice none 0 0))).setCell ⟨p, 5, none⟩ (.int .i64 1)) o L p pd (LogM.reset2 (m, d)).1.1 ∧
      Step (Only L) w o ((((w.drew.setCell ⟨p, 4, none⟩ (.bool true)).setCell ⟨p, 6, none⟩ (.slice none 0 0))).setCell ⟨p, 5, none⟩ (.int .i64 1)) o) := by
    have h1 := hlg.set (m' := { m with headed := true }) hL 4 (.bool true) (fun rv => rfl) rfl hwf
    have s1 := hlg.setStep 4 (.bool true)
    have hdr : Step Nobody w o w.drew o := (Step.refl _ _ _).drew
    have h0 := hlg.step hdr (fun h => h) (fun h => h)
    obtain ⟨rv, vs, hp, hr, hv, op, orr, _⟩ := h0
    have hst : Step (Only L) w.drew o ((((w.drew.setCell ⟨p, 4, none⟩ (.bool true)).setCell ⟨p, 6, none⟩ (.slice none 0 0))).setCell ⟨p, 5, none⟩ (.int .i64 1)) o :=
      (((Step.refl (Only L) w.drew o).setCell (a := ⟨p, 4, none⟩) _ (.inl (by show (o p).1 = L; rw [op]))).setCell (a := ⟨p, 6, none⟩) _ (.inl (by show (o p).1 = L; rw [op]))).setCell (a := ⟨p, 5, none⟩) _ (.inl (by show (o p).1 = L; rw [op]))
    refine ⟨?_, (hdr.only L).trans hst⟩
    refine ⟨.slice none 0 0, [], heap_setCell_at (i := 5) _ (heap_setCell_at (i := 6) _ (heap_setCell_at (i := 4) _ hp)), World.ownsRow_nil _ _ _ _, RowsT.nil _ _, op, fun k hk => by simp [Value.ownBlock] at hk, ?_⟩
    obtain ⟨g1, g2, g3, g4, g5, g6, g7⟩ := hwf
    exact ⟨g1, g2, g3, by show 1 ≤ 1; omega, by show 1 ≤ m.n; omega, by show 0 + 1 ≤ 1; omega, fun r hr => by simp [LogM.reset2] at hr⟩
  have hE : LogM.reset2 (m, d) = (({ m with headed := true, records := [], end' := 1 }, d), 0) := rfl
  have hEH := hidden hE
  have hdk2 := fun x (hx : Step (Only L) w o x o) => hdk.step hx (fun e => hLD e.symm)
  have hdkH := hidden hdk2
  obtain ⟨rv, vs, ⟨c0, c1, c2, c3, c4, c5, c6, c7⟩, hf, -⟩ := hlg.open
  have f4 := hf 4
  have f5 := hf 5
  have f6 := hf 6
  clear hE hdk2 hf c0 c1 c2 c3 c7 hlg hdk hl
  go_enter Try.func93, Try.ntmps93
  go_wp2_with fail
  refine wp_region_need (fun w' => w'.cell? ⟨bl, 0, none⟩ = some (.pointer (some ⟨p, 0, none⟩))) (fun _ => true) (by kernel_rfl) cl (fun hHeld => ?_)
  refine wpAnyN_tk (i := 0) (v := ?_) rfl (by kernel_rfl) (fun _ _ _ h => h) (Or.inl ⟨by rfl, ?_⟩) (by assumption) ?_
  rotate_left
  · intro w hSw; ((try dsimp only at hSw); go_simp; (try with_reducible rfl))
  simp only [Act.put, List.setIfInBounds_toArray, List.set_cons_zero, List.set_cons_succ]
  refine wpAnyN_tk (i := 1) (v := ?_) rfl (by kernel_rfl) (fun _ _ _ h => h) (Or.inl ⟨by rfl, ?_⟩) (by assumption) ?_
  rotate_left
  · intro w hSw; ((try dsimp only at hSw); go_simp; (try with_reducible rfl))
  simp only [Act.put, List.setIfInBounds_toArray, List.set_cons_zero, List.set_cons_succ]
  refine wpAnyN_tk (i := 2) (v := ?_) rfl (by kernel_rfl) (fun _ _ _ h => h) (Or.inl ⟨by rfl, ?_⟩) (by assumption) ?_
  rotate_left
  · intro w hSw; ((try dsimp only at hSw); go_simp; (try with_reducible rfl))
  simp only [Act.put, List.setIfInBounds_toArray, List.set_cons_zero, List.set_cons_succ]
  refine wpAnyN_tk (i := 3) (v := ?_) rfl (by kernel_rfl) (fun _ _ _ h => h) (Or.inl ⟨by rfl, ?_⟩) (by assumption) ?_
  rotate_left
  · intro w hSw; ((try dsimp only at hSw); go_simp; (try with_reducible rfl))
  simp only [Act.put, List.setIfInBounds_toArray, List.set_cons_zero, List.set_cons_succ]
  refine wpAnyN_tk (i := 4) (v := ?_) rfl (by kernel_rfl) (fun _ _ _ h => h) (Or.inl ⟨by rfl, ?_⟩) (by assumption) ?_
  rotate_left
  · intro w hSw; ((try dsimp only at hSw); go_simp; (try with_reducible rfl))
  simp only [Act.put, List.setIfInBounds_toArray, List.set_cons_zero, List.set_cons_succ]
  have k1 : (w.drew.setCell ⟨p, 4, none⟩ (.bool true)).cell? ⟨bl, 0, none⟩ = some (.pointer (some ⟨p, 0, none⟩)) := by rw [World.cell?_setCell_other _ _ _ _ (by simp)]; exact hHeld
  have k2 : ((w.drew.setCell ⟨p, 4, none⟩ (.bool true)).setCell ⟨p, 6, none⟩ (.slice none 0 0)).cell? ⟨bl, 0, none⟩ = some (.pointer (some ⟨p, 0, none⟩)) := by rw [World.cell?_setCell_other _ _ _ _ (by simp)]; exact k1
  have k3 : (((w.drew.setCell ⟨p, 4, none⟩ (.bool true)).setCell ⟨p, 6, none⟩ (.slice none 0 0)).setCell ⟨p, 5, none⟩ (.int .i64 1)).cell? ⟨bl, 0, none⟩ = some (.pointer (some ⟨p, 0, none⟩)) := by rw [World.cell?_setCell_other _ _ _ _ (by simp)]; exact k2
  have K1 := hidden k1
  have K2 := hidden k2
  have K3 := hidden k3
  clear k1 k2 k3 hHeld cl
  refine wpAnyN_one (i := 5) rfl (by kernel_rfl) ?_
  go_wp2_with fail
  refine ⟨fun _ => K1.out, ?_⟩
  have kk1 := K1.out
  refine wpAnyN_tk (i := 6) (v := ?_) rfl (by kernel_rfl) (fun _ _ _ h => h) (Or.inl ⟨by rfl, ?_⟩) (by assumption) ?_
  rotate_left
  · intro w hSw; ((try dsimp only at hSw); go_simp; (try with_reducible rfl))
  simp only [Act.put, List.setIfInBounds_toArray, List.set_cons_zero, List.set_cons_succ]
  refine wpAnyN_tk (i := 7) (v := ?_) rfl (by kernel_rfl) (fun _ _ _ h => h) (Or.inl ⟨by rfl, ?_⟩) (by assumption) ?_
  rotate_left
  · intro w hSw; ((try dsimp only at hSw); go_simp; (try with_reducible rfl))
  simp only [Act.put, List.setIfInBounds_toArray, List.set_cons_zero, List.set_cons_succ]
  clear kk1
  refine wpAnyN_one (i := 8) rfl (by kernel_rfl) ?_
  go_wp2_with fail
  refine ⟨fun _ => K2.out, ?_⟩
  have kk2 := K2.out
  refine wpAnyN_tk (i := 9) (v := ?_) rfl (by kernel_rfl) (fun _ _ _ h => h) (Or.inl ⟨by rfl, ?_⟩) (by assumption) ?_
  rotate_left
  · intro w hSw; ((try dsimp only at hSw); go_simp; (try with_reducible rfl))
  simp only [Act.put, List.setIfInBounds_toArray, List.set_cons_zero, List.set_cons_succ]
  refine wpAnyN_tk (i := 10) (v := ?_) rfl (by kernel_rfl) (fun _ _ _ h => h) (Or.inl ⟨by rfl, ?_⟩) (by assumption) ?_
  rotate_left
  · intro w hSw; ((try dsimp only at hSw); go_simp; (try with_reducible rfl))
  simp only [Act.put, List.setIfInBounds_toArray, List.set_cons_zero, List.set_cons_succ]
  clear kk2
  refine wpAnyN_one (i := 11) rfl (by kernel_rfl) ?_
  go_wp2_with fail
  refine ⟨fun _ => K3.out, ?_⟩
  refine wpAnyN_done (by kernel_rfl) ?_ _
  clear c4 c5 c6 f4 f5 f6
  go_wp2_with fail
  go_ret
  rw [hEH.out]
  refine ⟨_, o, rfl, hfin.out.2.inL, rfl, ?_, hdkH.out _ hfin.out.2⟩
  have h := hfin.out.1
  rw [hEH.out] at h
  exact h
end
end Go.Proofs.YtfgggkheadfiaaaR
/- Plain laws: which records pages tell, and what becomes of them where a record, or a head, is put. No program in sight. -/
namespace Go.Proofs.YtfgggkheadfiaaaR
open Go Go.RowKit
namespace LogM

theorem run_spec (X : BitVec 64) (k : Nat) : ∀ (l : List LeafM) (i : Nat), run X k i l = true ↔ ∀ j y, l[j]? = some y → y.stamp = X ∧ y.at' = i + j ∧ y.of' = k
  | [], i => by simp [run]
  | x :: r, i => by
    simp only [run, Bool.and_eq_true, beq_iff_eq, run_spec X k r (i + 1)]
    constructor
    · rintro ⟨⟨⟨h1, h2⟩, h3⟩, h4⟩ j y hy
      cases j with
      | zero => simp only [List.getElem?_cons_zero, Option.some.injEq] at hy; subst hy; exact ⟨h1, by omega, h3⟩
      | succ j => obtain ⟨a, b, c⟩ := h4 j y (by simpa using hy); exact ⟨a, by omega, c⟩
    · intro h
      obtain ⟨a, b, c⟩ := h 0 x rfl
      refine ⟨⟨⟨a, by omega⟩, c⟩, fun j y hy => ?_⟩
      obtain ⟨a, b, c⟩ := h (j + 1) y (by simpa using hy)
      exact ⟨a, by omega, c⟩

theorem get_part {α : Type} (l : List α) (e k j : Nat) : ((l.drop e).take k)[j]? = if j < k then l[e + j]? else none := by
  rw [List.getElem?_take]; split <;> simp

theorem accept_some {leaves : List LeafM} {e : Nat} {last X : BitVec 64} {k : Nat} {b : List UInt8} (h : accept leaves e last = some (k, X, b)) :
    1 ≤ k ∧ e + k ≤ leaves.length ∧ last.toNat < X.toNat ∧ (∀ i, i < k → ∃ y, leaves[e + i]? = some y ∧ y.stamp = X ∧ y.at' = i ∧ y.of' = k) ∧ b = ((leaves.drop e).take k).flatMap LeafM.bytes := by
  unfold accept at h
  split at h
  · cases h
  · rename_i x hx
    split at h
    · cases h
    · rename_i hc
      split at h
      · rename_i hr
        simp only [Option.some.injEq, Prod.mk.injEq] at h
        obtain ⟨rfl, rfl, rfl⟩ := h
        have he : e < leaves.length := (List.getElem?_eq_some_iff.1 hx).1
        refine ⟨by omega, by omega, by omega, ?_, rfl⟩
        intro i hi
        have hlt : e + i < leaves.length := by omega
        have := (run_spec _ _ _ 0).1 hr i leaves[e + i] (by rw [get_part, if_pos hi, List.getElem?_eq_getElem hlt])
        exact ⟨_, List.getElem?_eq_getElem hlt, this.1, by omega, this.2.2⟩
      · cases h
theorem accept_intro {leaves : List LeafM} {e : Nat} {last X : BitVec 64} {k : Nat} (h1 : 1 ≤ k) (h2 : e + k ≤ leaves.length) (h3 : last.toNat < X.toNat)
    (h4 : ∀ i, i < k → ∃ y, leaves[e + i]? = some y ∧ y.stamp = X ∧ y.at' = i ∧ y.of' = k) : accept leaves e last = some (k, X, ((leaves.drop e).take k).flatMap LeafM.bytes) := by
  obtain ⟨x, hx, e1, e2, e3⟩ := h4 0 (by omega)
  rw [Nat.add_zero] at hx
  unfold accept
  rw [hx]
  simp only
  rw [e1, e3, if_neg (by omega), if_pos]
  rw [run_spec]
  intro j y hy
  rw [get_part] at hy
  split at hy
  · rename_i hj
    obtain ⟨z, hz, q1, q2, q3⟩ := h4 j hj
    rw [hy] at hz
    simp only [Option.some.injEq] at hz
    subst hz
    exact ⟨q1, by omega, q3⟩
  · cases hy

theorem take_get {α : Type} {l l2 : List α} {m : Nat} (h : l2.take m = l.take m) {j : Nat} (hj : j < m) : l2[j]? = l[j]? := by
  have := congrArg (·[j]?) h
  simp only [List.getElem?_take, if_pos hj] at this
  exact this
theorem take_part {α : Type} {l l2 : List α} {m : Nat} (h : l2.take m = l.take m) {e k : Nat} (hj : e + k ≤ m) : (l2.drop e).take k = (l.drop e).take k := by
  apply List.ext_getElem?
  intro i
  rw [get_part, get_part]
  split
  · exact take_get h (by omega)
  · rfl
theorem accept_congr {leaves l2 : List LeafM} {e m : Nat} {last X : BitVec 64} {k : Nat} {b : List UInt8} (h : accept leaves e last = some (k, X, b)) (ht : l2.take m = leaves.take m) (hm : e + k ≤ m) (hl : m ≤ l2.length) :
    accept l2 e last = some (k, X, b) := by
  obtain ⟨h1, h2, h3, h4, rfl⟩ := accept_some h
  rw [accept_intro h1 (by omega) h3 (fun i hi => by rw [take_get ht (by omega)]; exact h4 i hi), take_part ht hm]

theorem readL_mono (leaves : List LeafM) : ∀ (f : Nat) (s : Nat × BitVec 64 × List (List UInt8)), s.1 ≤ (readL leaves f s).1 ∧ (s.1 ≤ leaves.length → (readL leaves f s).1 ≤ leaves.length)
  | 0, s => ⟨Nat.le_refl _, fun h => h⟩
  | f + 1, s => by
    unfold readL
    cases h : accept leaves s.1 s.2.1 with
    | none => exact ⟨Nat.le_refl _, fun h => h⟩
    | some r =>
      obtain ⟨k, X, b⟩ := r
      obtain ⟨h1, h2, _⟩ := accept_some h
      have := readL_mono leaves f (s.1 + k, X, s.2.2 ++ [b])
      exact ⟨by have := this.1; simp only at this ⊢; omega, fun _ => this.2 h2⟩
theorem readL_end (leaves : List LeafM) : ∀ (f : Nat) (s : Nat × BitVec 64 × List (List UInt8)), leaves.length - s.1 ≤ f → accept leaves (readL leaves f s).1 (readL leaves f s).2.1 = none
  | 0, s, hf => by
    unfold readL accept
    rw [List.getElem?_eq_none (by omega)]
  | f + 1, s, hf => by
    unfold readL
    cases h : accept leaves s.1 s.2.1 with
    | none => exact h
    | some r =>
      obtain ⟨k, X, b⟩ := r
      obtain ⟨h1, h2, _⟩ := accept_some h
      exact readL_end leaves f _ (by simp only; omega)
theorem readL_stop {leaves : List LeafM} {s : Nat × BitVec 64 × List (List UInt8)} (h : accept leaves s.1 s.2.1 = none) : ∀ f, readL leaves f s = s
  | 0 => rfl
  | f + 1 => by unfold readL; rw [h]
theorem readL_some {leaves : List LeafM} {s : Nat × BitVec 64 × List (List UInt8)} {r : Nat × BitVec 64 × List UInt8} (h : accept leaves s.1 s.2.1 = some r) (f : Nat) :
    readL leaves (f + 1) s = readL leaves f (s.1 + r.1, r.2.1, s.2.2 ++ [r.2.2]) := by
  conv => lhs; unfold readL
  rw [h]
theorem readL_prefix (leaves l2 : List LeafM) : ∀ (f f2 : Nat) (s : Nat × BitVec 64 × List (List UInt8)), l2.length - s.1 ≤ f2 → l2.take (readL leaves f s).1 = leaves.take (readL leaves f s).1 → (readL leaves f s).1 ≤ l2.length →
    ∃ f3, l2.length - (readL leaves f s).1 ≤ f3 ∧ readL l2 f2 s = readL l2 f3 (readL leaves f s)
  | 0, f2, s, h2, _, _ => ⟨f2, h2, rfl⟩
  | f + 1, f2, s, h2, ht, hl => by
    cases h : accept leaves s.1 s.2.1 with
    | none => rw [readL_stop h] at ht hl ⊢; exact ⟨f2, h2, rfl⟩
    | some r =>
      obtain ⟨k, X, b⟩ := r
      rw [readL_some h] at ht hl ⊢
      obtain ⟨h1, h3, _⟩ := accept_some h
      have hm := (readL_mono leaves f (s.1 + k, X, s.2.2 ++ [b])).1
      simp only at hm ht hl
      have hc := accept_congr h ht hm hl
      cases f2 with
      | zero => omega
      | succ f2 =>
        obtain ⟨f3, q1, q2⟩ := readL_prefix leaves l2 f f2 (s.1 + k, X, s.2.2 ++ [b]) (by simp only; omega) ht hl
        exact ⟨f3, q1, (readL_some hc f2).trans q2⟩
theorem readL_last (leaves : List LeafM) : ∀ (f : Nat) (s : Nat × BitVec 64 × List (List UInt8)) (m : Nat), s.2.1.toNat ≤ m → (∀ y ∈ leaves, y.stamp.toNat ≤ m) → (readL leaves f s).2.1.toNat ≤ m
  | 0, s, m, h, _ => h
  | f + 1, s, m, h, hy => by
    unfold readL
    cases hc : accept leaves s.1 s.2.1 with
    | none => exact h
    | some r =>
      obtain ⟨k, X, b⟩ := r
      obtain ⟨h1, h3, _, h4, _⟩ := accept_some hc
      refine readL_last leaves f _ m ?_ hy
      obtain ⟨y, hy1, hy2, _⟩ := h4 0 (by omega)
      rw [← hy2]
      exact hy y (List.mem_of_getElem? hy1)

/-! ### Leaves of pages -/
theorem takeWhile_get {α : Type} (p : α → Bool) : ∀ (l : List α) (j : Nat), j < (l.takeWhile p).length → (l.takeWhile p)[j]? = l[j]?
  | [], j, h => by simp at h
  | x :: r, j, h => by
    rw [List.takeWhile_cons] at h ⊢
    split at h
    · rename_i hx
      rw [if_pos hx]
      cases j with
      | zero => rfl
      | succ j => simp only [List.getElem?_cons_succ]; exact takeWhile_get p r j (by simpa using h)
    · simp at h
theorem lt_takeWhile {α : Type} (p : α → Bool) : ∀ (l : List α) (j : Nat), j < (l.takeWhile p).length ↔ ∀ i, i ≤ j → ∃ x, l[i]? = some x ∧ p x = true
  | [], j => by
    constructor
    · intro h; simp at h
    · intro h; obtain ⟨x, hx, _⟩ := h 0 (by omega); simp at hx
  | x :: r, j => by
    rw [List.takeWhile_cons]
    split
    · rename_i hx
      cases j with
      | zero =>
        constructor
        · intro _ i hi; obtain rfl : i = 0 := by omega
          exact ⟨x, rfl, hx⟩
        · intro _; simp
      | succ j =>
        simp only [List.length_cons, Nat.add_lt_add_iff_right, lt_takeWhile p r j]
        constructor
        · intro h i hi
          cases i with
          | zero => exact ⟨x, rfl, hx⟩
          | succ i => simpa using h i (by omega)
        · intro h i hi
          simpa using h (i + 1) (by omega)
    · rename_i hx
      constructor
      · intro h; simp at h
      · intro h
        obtain ⟨y, hy, hp⟩ := h 0 (by omega)
        simp only [List.getElem?_cons_zero, Option.some.injEq] at hy
        subst hy; exact absurd hp hx

theorem leaves_lt (pages : List (List UInt8)) (j : Nat) : j < (leavesOf pages).length ↔ ∀ i, i ≤ j → ∃ p, pages[i]? = some p ∧ (saidL p).2 = true := by
  unfold leavesOf; rw [List.length_map]; exact lt_takeWhile _ _ _
theorem leaves_get {pages : List (List UInt8)} {j : Nat} {y : LeafM} (h : (leavesOf pages)[j]? = some y) : ∃ p, pages[j]? = some p ∧ (saidL p).2 = true ∧ y = (saidL p).1 := by
  have hj : j < (leavesOf pages).length := (List.getElem?_eq_some_iff.1 h).1
  obtain ⟨p, hp, ho⟩ := (leaves_lt pages j).1 hj j (Nat.le_refl _)
  unfold leavesOf at h hj
  rw [List.length_map] at hj
  rw [List.getElem?_map, takeWhile_get _ _ _ hj, hp] at h
  simp only [Option.map_some, Option.some.injEq] at h
  exact ⟨p, hp, ho, h.symm⟩
theorem leaves_at {pages : List (List UInt8)} {j : Nat} {p : List UInt8} (hj : j < (leavesOf pages).length) (hp : pages[j]? = some p) : (leavesOf pages)[j]? = some (saidL p).1 := by
  obtain ⟨q, hq, _, e⟩ := leaves_get (List.getElem?_eq_getElem hj)
  rw [hp] at hq
  simp only [Option.some.injEq] at hq
  subst hq
  rw [List.getElem?_eq_getElem hj, e]
theorem leaves_agree {pages pages' : List (List UInt8)} {m : Nat} (h : ∀ j, j < m → pages'[j]? = pages[j]?) (hm : m ≤ (leavesOf pages).length) :
    m ≤ (leavesOf pages').length ∧ (leavesOf pages').take m = (leavesOf pages).take m := by
  have h1 : m ≤ (leavesOf pages').length := by
    cases m with
    | zero => omega
    | succ m =>
      have := (leaves_lt pages m).1 hm
      have : m < (leavesOf pages').length := (leaves_lt pages' m).2 fun i hi => by rw [h i (by omega)]; exact this i hi
      exact this
  refine ⟨h1, List.ext_getElem? fun j => ?_⟩
  rw [List.getElem?_take, List.getElem?_take]
  split
  · rename_i hj
    obtain ⟨p, hp, _⟩ := (leaves_lt pages j).1 (by omega) j (Nat.le_refl _)
    rw [leaves_at (by omega) hp, leaves_at (by omega) (by rw [h j hj]; exact hp)]
  · rfl

/-! ### The newest stamp -/
theorem umax_toNat (a b : BitVec 64) : (umax a b).toNat = max a.toNat b.toNat := by unfold umax; split <;> omega
theorem newest_foldl (pages : List (List UInt8)) : ∀ s : BitVec 64, (pages.foldl (fun s p => umax (umax s (num (p.take 8))) (num (p.drop 504))) s).toNat = pages.foldl (fun s p => max (max s (num (p.take 8)).toNat) (num (p.drop 504)).toNat) s.toNat := by
  induction pages with
  | nil => intro s; rfl
  | cons p r ih => intro s; simp only [List.foldl_cons]; rw [ih, umax_toNat, umax_toNat]
theorem newest_le {pages : List (List UInt8)} {m : Nat} : (newest pages).toNat ≤ m ↔ ∀ p ∈ pages, (num (p.take 8)).toNat ≤ m ∧ (num (p.drop 504)).toNat ≤ m := by
  unfold newest
  rw [newest_foldl]
  have : ∀ (pages : List (List UInt8)) (s : Nat), pages.foldl (fun s p => max (max s (num (p.take 8)).toNat) (num (p.drop 504)).toNat) s ≤ m ↔ s ≤ m ∧ ∀ p ∈ pages, (num (p.take 8)).toNat ≤ m ∧ (num (p.drop 504)).toNat ≤ m := by
    intro pages
    induction pages with
    | nil => intro s; simp
    | cons p r ih =>
      intro s
      simp only [List.foldl_cons, ih, List.mem_cons, forall_eq_or_imp]
      constructor
      · rintro ⟨a, b⟩; exact ⟨by omega, ⟨by omega, by omega⟩, b⟩
      · rintro ⟨a, ⟨b, c⟩, d⟩; exact ⟨by omega, d⟩
  rw [this]
  constructor
  · exact fun h => h.2
  · exact fun h => ⟨by simp, h⟩
theorem newest_ge {pages : List (List UInt8)} {p : List UInt8} (h : p ∈ pages) : (num (p.take 8)).toNat ≤ (newest pages).toNat ∧ (num (p.drop 504)).toNat ≤ (newest pages).toNat :=
  newest_le.1 (Nat.le_refl _) p h
theorem saidL_stamp {p : List UInt8} (h : (saidL p).2 = true) : (saidL p).1.stamp = num (p.take 8) := by
  rw [(saidL_true h).1]; rfl
theorem leaf_le {pages : List (List UInt8)} {y : LeafM} (h : y ∈ leavesOf pages) : y.stamp.toNat ≤ (newest pages).toNat := by
  obtain ⟨j, hj⟩ := List.mem_iff_getElem?.1 h
  obtain ⟨p, hp, ho, rfl⟩ := leaves_get hj
  rw [saidL_stamp ho]
  exact (newest_ge (List.mem_of_getElem? hp)).1
theorem headStamp_le (pages : List (List UInt8)) : (headStamp (leavesOf pages)).toNat ≤ (newest pages).toNat := by
  cases h : leavesOf pages with
  | nil => simp [headStamp]
  | cons x r => exact leaf_le (y := x) (by rw [h]; simp)

/-! ### A record is cut -/
theorem length_part (b : List UInt8) (i : Nat) : (part b i).length ≤ 480 := by simp only [part, List.length_take]; omega
theorem parts_take (b : List UInt8) : ∀ k : Nat, (List.range k).flatMap (part b) = b.take (480 * k)
  | 0 => by simp
  | k + 1 => by
    rw [List.range_succ, List.flatMap_append, parts_take b k]
    simp only [List.flatMap_cons, List.flatMap_nil, List.append_nil, part]
    rw [show 480 * (k + 1) = 480 * k + 480 from by omega, List.take_add]
theorem parts_all (b : List UInt8) : (List.range (many b)).flatMap (part b) = b := by
  rw [parts_take, List.take_of_length_le]
  unfold many; omega
theorem many_pos (b : List UInt8) : 1 ≤ many b := by unfold many; omega

theorem isHead_len {ls : List LeafM} (h : isHead ls = true) : 1 ≤ ls.length := by cases ls with
  | nil => cases h
  | cons x r => simp
theorem isHead_take {ls l2 : List LeafM} {m : Nat} (h : l2.take m = ls.take m) (hm : 1 ≤ m) : isHead l2 = isHead ls ∧ headStamp l2 = headStamp ls := by
  have := take_get h (j := 0) (by omega)
  cases ls with
  | nil => cases l2 with
    | nil => exact ⟨rfl, rfl⟩
    | cons y r => simp at this
  | cons x s => cases l2 with
    | nil => simp at this
    | cons y r =>
      simp only [List.getElem?_cons_zero, Option.some.injEq] at this
      subst this; exact ⟨rfl, rfl⟩

/-- What is told behind a record that was put, whole or in part. -/
theorem records_put {pages pages' : List (List UInt8)} {S : BitVec 64} {b : List UInt8} (hh : isHead (leavesOf pages) = true) (hS : (newest pages).toNat < S.toNat) (hk : many b < 65536)
    (hout : ∀ j, (j < (readAll (leavesOf pages)).1 ∨ (readAll (leavesOf pages)).1 + many b ≤ j) → pages'[j]? = pages[j]?)
    (hin : ∀ i, i < many b → ∃ p', pages'[(readAll (leavesOf pages)).1 + i]? = some p' ∧ (pages[(readAll (leavesOf pages)).1 + i]? = some p' ∨ p' = LeafM.page ⟨S, i, many b, part b i⟩ ∨ (saidL p').2 = false)) :
    isHead (leavesOf pages') = true ∧
    ((readAll (leavesOf pages') = readAll (leavesOf pages) ∧ ¬ ∀ i, i < many b → pages'[(readAll (leavesOf pages)).1 + i]? = some (LeafM.page ⟨S, i, many b, part b i⟩)) ∨
     ((readAll (leavesOf pages')).1 = (readAll (leavesOf pages)).1 + many b ∧ (readAll (leavesOf pages')).2.2 = (readAll (leavesOf pages)).2.2 ++ [b])) := by
  have hl1 := isHead_len hh
  have hle := (readL_mono (leavesOf pages) (leavesOf pages).length (1, headStamp (leavesOf pages), [])).2 hl1
  have hge := (readL_mono (leavesOf pages) (leavesOf pages).length (1, headStamp (leavesOf pages), [])).1
  have hend := readL_end (leavesOf pages) (leavesOf pages).length (1, headStamp (leavesOf pages), []) (by simp only; omega)
  have hlast := readL_last (leavesOf pages) (leavesOf pages).length (1, headStamp (leavesOf pages), []) (newest pages).toNat (headStamp_le pages) (fun y hy => leaf_le hy)
  change (readAll (leavesOf pages)).1 ≤ _ at hle
  change 1 ≤ (readAll (leavesOf pages)).1 at hge
  change accept _ (readAll (leavesOf pages)).1 (readAll (leavesOf pages)).2.1 = none at hend
  change (readAll (leavesOf pages)).2.1.toNat ≤ _ at hlast
  obtain ⟨⟨e, last, rs⟩, hq⟩ : ∃ q, readAll (leavesOf pages) = q := ⟨_, rfl⟩
  rw [hq] at hout hin hle hge hend hlast ⊢
  simp only at hout hin hle hge hend hlast ⊢
  obtain ⟨a1, a2⟩ := leaves_agree (pages := pages) (pages' := pages') (m := e) (fun j hj => hout j (.inl hj)) hle
  obtain ⟨b1, b2⟩ := isHead_take a2 hge
  refine ⟨b1.trans hh, ?_⟩
  have hpre := readL_prefix (leavesOf pages) (leavesOf pages') (leavesOf pages).length (leavesOf pages').length (1, headStamp (leavesOf pages), []) (by simp only; omega)
    (by change (leavesOf pages').take (readAll (leavesOf pages)).1 = (leavesOf pages).take (readAll (leavesOf pages)).1; rw [hq]; exact a2) (by change (readAll (leavesOf pages)).1 ≤ _; rw [hq]; exact a1)
  obtain ⟨f3, g1, g2⟩ := hpre
  change _ - (readAll (leavesOf pages)).1 ≤ f3 at g1
  change _ = readL (leavesOf pages') f3 (readAll (leavesOf pages)) at g2
  rw [hq] at g1 g2
  rw [← b2] at g2
  change readAll (leavesOf pages') = _ at g2
  rw [g2]
  simp only at g1
  have hkp := many_pos b
  -- a page that bears the new stamp, and says something, is the new leaf
  have hnew : ∀ j y, (leavesOf pages')[j]? = some y → y.stamp = S → e ≤ j ∧ j < e + many b ∧ y = ⟨S, j - e, many b, part b (j - e)⟩ := by
    intro j y hy hys
    obtain ⟨p, hp, ho, rfl⟩ := leaves_get hy
    have hold : pages[j]? = some p → False := fun h => by
      have := (newest_ge (List.mem_of_getElem? h)).1
      rw [saidL_stamp ho] at hys
      rw [hys] at this; omega
    by_cases hj : e ≤ j ∧ j < e + many b
    · obtain ⟨p', hp', hx⟩ := hin (j - e) (by omega)
      rw [show e + (j - e) = j from by omega] at hp' hx
      rw [hp] at hp'
      simp only [Option.some.injEq] at hp'
      subst hp'
      rcases hx with hx | hx | hx
      · exact (hold hx).elim
      · refine ⟨hj.1, hj.2, ?_⟩
        have h0 : S ≠ 0#64 := by rintro rfl; simp at hS
        rw [hx, LeafM.saidL_page ⟨h0, by show j - e < 65536; omega, hk, length_part _ _⟩]
      · rw [hx] at ho; cases ho
    · exact (hold (by rw [← hout j (by omega)]; exact hp)).elim
  have holdp : ∀ (j : Nat) (y : LeafM), (leavesOf pages')[j]? = some y → y.stamp ≠ S → ∃ p : List UInt8, pages[j]? = some p ∧ pages'[j]? = some p ∧ (saidL p).2 = true ∧ y = (saidL p).1 := by
    intro j y hy hys
    obtain ⟨p, hp, ho, rfl⟩ := leaves_get hy
    by_cases hj : e ≤ j ∧ j < e + many b
    · obtain ⟨p', hp', hx⟩ := hin (j - e) (by omega)
      rw [show e + (j - e) = j from by omega] at hp' hx
      rw [hp] at hp'
      simp only [Option.some.injEq] at hp'
      subst hp'
      rcases hx with hx | hx | hx
      · exact ⟨_, hx, hp, ho, rfl⟩
      · have h0 : S ≠ 0#64 := by rintro rfl; simp at hS
        rw [hx, LeafM.saidL_page ⟨h0, by show j - e < 65536; omega, hk, length_part _ _⟩] at hys
        exact (hys rfl).elim
      · rw [hx] at ho; cases ho
    · exact ⟨p, by rw [← hout j (by omega)]; exact hp, hp, ho, rfl⟩
  cases hac : accept (leavesOf pages') e last with
  | none =>
    left
    rw [readL_stop (s := (e, last, rs)) hac]
    refine ⟨rfl, fun hall => ?_⟩
    -- all new: it is accepted
    have hlen : e + many b ≤ (leavesOf pages').length := by
      have : e + many b - 1 < (leavesOf pages').length := (leaves_lt _ _).2 fun i hi => by
        by_cases hie : i < e
        · exact (leaves_lt pages' i).1 (by omega) i (Nat.le_refl _)
        · refine ⟨_, (by have := hall (i - e) (by omega); rwa [show e + (i - e) = i from by omega] at this), ?_⟩
          have h0 : S ≠ 0#64 := by rintro rfl; simp at hS
          rw [LeafM.saidL_page ⟨h0, by show i - e < 65536; omega, hk, length_part _ _⟩]
      omega
    have := accept_intro (leaves := leavesOf pages') (e := e) (last := last) (X := S) (k := many b) hkp hlen (by omega) fun i hi => by
      have h0 : S ≠ 0#64 := by rintro rfl; simp at hS
      have hy := leaves_at (pages := pages') (j := e + i) (by omega) (hall i hi)
      rw [LeafM.saidL_page ⟨h0, by show i < 65536; omega, hk, length_part _ _⟩] at hy
      exact ⟨_, hy, rfl, rfl, rfl⟩
    rw [hac] at this; cases this
  | some r =>
    obtain ⟨k, X, c⟩ := r
    obtain ⟨c1, c2, c3, c4, c5⟩ := accept_some hac
    by_cases hX : X = S
    · subst hX
      right
      obtain ⟨y, hy, y1, y2, y3⟩ := c4 0 (by omega)
      obtain ⟨_, _, hy4⟩ := hnew _ y hy y1
      have hkm : k = many b := by rw [← y3, hy4]
      subst hkm
      have hc : c = b := by
        rw [c5]
        have : (List.take (many b) (List.drop e (leavesOf pages'))) = (List.range (many b)).map fun i => (⟨X, i, many b, part b i⟩ : LeafM) := by
          apply List.ext_getElem?
          intro i
          rw [get_part, List.getElem?_map]
          split
          · rename_i hi
            obtain ⟨z, hz, z1, _⟩ := c4 i hi
            obtain ⟨_, _, hz4⟩ := hnew _ z hz z1
            rw [hz, hz4, List.getElem?_range hi]
            simp
          · rename_i hi
            rw [List.getElem?_eq_none (by simp; omega)]; rfl
        rw [this, List.flatMap_map]
        exact parts_all b
      subst hc
      -- behind it nothing is new
      have hstop : accept (leavesOf pages') (e + many c) X = none := by
        cases hac2 : accept (leavesOf pages') (e + many c) X with
        | none => rfl
        | some r2 =>
          obtain ⟨k2, X2, d2⟩ := r2
          obtain ⟨d1, _, d3, d4, _⟩ := accept_some hac2
          obtain ⟨z, hz, z1, _⟩ := d4 0 (by omega)
          rw [Nat.add_zero] at hz
          have hz2 : z.stamp ≠ X := by rw [z1]; rintro rfl; omega
          obtain ⟨p, hp, _, ho, rfl⟩ := holdp _ z hz hz2
          have := (newest_ge (List.mem_of_getElem? hp)).1
          rw [saidL_stamp ho] at z1
          rw [z1] at this; omega
      cases f3 with
      | zero => omega
      | succ f3 =>
        unfold readL
        rw [hac]
        simp only
        rw [readL_stop (s := (e + many c, X, rs ++ [c])) hstop]
        exact ⟨rfl, rfl⟩
    · -- an elder record was there already
      exfalso
      have hall : ∀ i, i < k → ∃ p : List UInt8, pages[e + i]? = some p ∧ (saidL p).2 = true ∧ ∃ y, (leavesOf pages')[e + i]? = some y ∧ y = (saidL p).1 := by
        intro i hi
        obtain ⟨y, hy, y1, _⟩ := c4 i hi
        obtain ⟨p, hp, _, ho, e1⟩ := holdp _ y hy (by rw [y1]; exact hX)
        exact ⟨p, hp, ho, y, hy, e1⟩
      have hlen : e + k ≤ (leavesOf pages).length := by
        have : e + k - 1 < (leavesOf pages).length := (leaves_lt _ _).2 fun i hi => by
          by_cases hie : i < e
          · exact (leaves_lt pages i).1 (by omega) i (Nat.le_refl _)
          · obtain ⟨p, hp, ho, _⟩ := hall (i - e) (by omega)
            rw [show e + (i - e) = i from by omega] at hp
            exact ⟨p, hp, ho⟩
        omega
      have := accept_intro (leaves := leavesOf pages) (e := e) (last := last) (X := X) (k := k) c1 hlen c3 fun i hi => by
        obtain ⟨p, hp, ho, y, hy, hye⟩ := hall i hi
        obtain ⟨y', hy', q⟩ := c4 i hi
        rw [hy] at hy'
        simp only [Option.some.injEq] at hy'
        subst hy'
        exact ⟨y, by rw [leaves_at (by omega) hp, hye], q⟩
      rw [hend] at this; cases this

/-- What is told behind a head that was put, whole or in part. -/
theorem records_head {pages pages' : List (List UInt8)} {S : BitVec 64} (hS : (newest pages).toNat < S.toNat) (hout : ∀ j, 1 ≤ j → pages'[j]? = pages[j]?)
    (hin : pages'[0]? = pages[0]? ∨ pages'[0]? = some (LeafM.page ⟨S, 0, 0, []⟩) ∨ ∃ p, pages'[0]? = some p ∧ (saidL p).2 = false) :
    (pages'[0]? = some (LeafM.page ⟨S, 0, 0, []⟩) → isHead (leavesOf pages') = true ∧ readAll (leavesOf pages') = (1, S, [])) ∧
    (pages'[0]? ≠ some (LeafM.page ⟨S, 0, 0, []⟩) → leavesOf pages' = leavesOf pages ∨ leavesOf pages' = []) := by
  constructor
  · intro h0
    have hS0 : S ≠ 0#64 := by rintro rfl; simp at hS
    have hsaid := LeafM.saidL_page (x := ⟨S, 0, 0, []⟩) ⟨hS0, by show (0:Nat) < 65536; omega, by show (0:Nat) < 65536; omega, by simp⟩
    have hl : 0 < (leavesOf pages').length := (leaves_lt _ _).2 fun i hi => by
      obtain rfl : i = 0 := by omega
      exact ⟨_, h0, by rw [hsaid]⟩
    have hg := leaves_at hl h0
    rw [hsaid] at hg
    simp only at hg
    obtain ⟨x, r, hx⟩ : ∃ x r, leavesOf pages' = x :: r := by
      cases h : leavesOf pages' with
      | nil => rw [h] at hl; simp at hl
      | cons x r => exact ⟨x, r, rfl⟩
    rw [hx] at hg
    simp only [List.getElem?_cons_zero, Option.some.injEq] at hg
    have hstop : accept (leavesOf pages') 1 S = none := by
      cases hac2 : accept (leavesOf pages') 1 S with
      | none => rfl
      | some r2 =>
        obtain ⟨k2, X2, d2⟩ := r2
        obtain ⟨d1, _, d3, d4, _⟩ := accept_some hac2
        obtain ⟨z, hz, z1, _⟩ := d4 0 (by omega)
        rw [Nat.add_zero] at hz
        obtain ⟨p, hp, ho, rfl⟩ := leaves_get hz
        rw [hout 1 (by omega)] at hp
        have := (newest_ge (List.mem_of_getElem? hp)).1
        rw [saidL_stamp ho] at z1
        rw [z1] at this; omega
    have hhs : headStamp (leavesOf pages') = S := by rw [hx]; subst hg; rfl
    refine ⟨by rw [hx]; subst hg; rfl, ?_⟩
    unfold readAll
    rw [hhs, readL_stop (s := (1, S, [])) hstop]
  · intro h0
    rcases hin with h | h | ⟨p, hp, ho⟩
    · left
      have : pages' = pages := List.ext_getElem? fun j => by
        cases j with
        | zero => exact h
        | succ j => exact hout _ (by omega)
      rw [this]
    · exact (h0 h).elim
    · right
      cases hq : pages' with
      | nil => rfl
      | cons q r =>
        rw [hq] at hp
        simp only [List.getElem?_cons_zero, Option.some.injEq] at hp
        subst hp
        unfold leavesOf
        rw [List.takeWhile_cons, if_neg (by rw [ho]; simp)]; rfl
end LogM
end Go.Proofs.YtfgggkheadfiaaaR
/- Regions that draw their order, once more: what is asked behind each operation is told for each by itself (N). -/
namespace Go.Proofs.YtfgggkheadfiaaaR
open Go Go.RowKit

section
variable {P : Program} {ops : Array Oper} {Q : Exit → Act → World → Prop} {md : Region.Mode} {N : Nat → World → Prop}
def wpAnyG (P : Program) (md : Region.Mode) (ops : Array Oper) (Q : Exit → Act → World → Prop) (N : Nat → World → Prop) : Nat → Array Bool → Act → World → Prop
  | 0, listed, a, w => Region.ready md ops listed = [] ∧ Q .normal a w
  | fuel + 1, listed, a, w =>
    (Region.ready md ops listed = [] → Q .normal a w) ∧
    ∀ i ∈ Region.ready md ops listed, wpOp P ops Q i (fun a' w' => (w' = w ∨ N i w') ∧ wpAnyG P md ops Q N fuel (listed.setIfInBounds i true) a' w') a w
theorem wpAny_of_g : ∀ (fuel : Nat) (listed : Array Bool) (a : Act) (w : World), wpAnyG P md ops Q N fuel listed a w → wpAny P md ops Q fuel listed a w
  | 0, _, _, _, h => h
  | fuel + 1, _, _, _, h => ⟨h.1, fun i hi => wpOp_mono (fun a' w' h' => wpAny_of_g fuel _ a' w' h'.2) (h.2 i hi)⟩
theorem wpAnyG_first {i : Nat} {oi : Oper} {v : Value} (hi : ops[i]? = some oi) (hsel : ∀ (j : Nat) (o : Oper) cs b, ops[j]? = some o → o.op ≠ .select cs b)
    (hQ : ∀ c a w, Q (.panic c) (a.put oi.dst v) w → Q (.panic c) a w) {St : World → Prop} (hN : ∀ (j : Nat) (w : World), depOn md ops j i = false → N j w → St w) :
    ∀ (fuel : Nat) (listed : Array Bool) (a : Act) (w : World),
      (∀ j oj, ops[j]? = some oj → j ≠ i → listed.getD j true = false → (∀ e ∈ oj.after, Region.binds md e = true → e.on ≠ i) → oi.apart ops oj = true) →
      i ∈ Region.ready md ops listed → YieldsIf P ops St oi v a → St w →
      wpAnyG P md ops Q N fuel (listed.setIfInBounds i true) (a.put oi.dst v) w → wpAnyG P md ops Q N (fuel + 1) listed a w := by
  intro fuel
  induction fuel with
  | zero =>
    intro listed a w _ hr hy hS H
    refine ⟨fun h => (by rw [h] at hr; cases hr), fun j hj => ?_⟩
    by_cases hji : j = i
    · subst hji; exact hy.wpOp hi hS ⟨.inl rfl, H⟩
    · have := ready_mono hj hji
      rw [H.1] at this
      cases this
  | succ fuel ih =>
    intro listed a w hfree hr hy hS H
    refine ⟨fun h => (by rw [h] at hr; cases hr), fun j hj => ?_⟩
    by_cases hji : j = i
    · subst hji; exact hy.wpOp hi hS ⟨.inl rfl, H⟩
    · have h1 := H.2 j (ready_mono hj hji)
      obtain ⟨hjun, oj, hoj, hall⟩ := mem_ready.1 hj
      have hnot : ∀ e ∈ oj.after, Region.binds md e = true → e.on ≠ i := fun e he hb heq => by
        have h1 := hall e he hb
        have h0 := (mem_ready.1 hr).1
        rw [heq] at h1
        rcases Nat.lt_or_ge i listed.size with h' | h'
        · simp [h'] at h0 h1; rw [h0] at h1; cases h1
        · simp [Array.getElem?_eq_none h'] at h1
      have hdep : depOn md ops j i = false := by
        unfold depOn
        simp only [hoj]
        cases hq : (oj.after.any fun e => Region.binds md e && e.on == i)
        · rfl
        · obtain ⟨e, he, hb⟩ := Array.any_eq_true'.1 hq
          simp only [Bool.and_eq_true, beq_iff_eq] at hb
          exact absurd hb.2 (hnot e he hb.1)
      have h2 := wpOp_putIf hoj (hfree j oj hoj hji hjun hnot) (fun cs b => hsel i oi cs b hi) (fun cs b => hsel j oj cs b hoj) hQ hy h1
      have hfree' : ∀ k ok, ops[k]? = some ok → k ≠ i → (listed.setIfInBounds j true).getD k true = false →
          (∀ e ∈ ok.after, Region.binds md e = true → e.on ≠ i) → oi.apart ops ok = true := fun k ok hk hki hun hno => by
        refine hfree k ok hk hki ?_ hno
        by_cases hjk : j = k
        · subst hjk; exact hjun
        · rw [getD_set_ne true hjk] at hun; exact hun
      refine wpOp_mono (fun a' w' h3 => ⟨h3.2.1, ih (listed.setIfInBounds j true) a' w' hfree' (ready_mono hr (Ne.symm hji)) h3.1 (by rcases h3.2.1 with rfl | h4; exact hS; exact hN j w' hdep h4) ?_⟩) h2
      rw [Array.setIfInBounds_comm _ _ hji]
      exact h3.2.2


theorem dep_out {i lo hi : Nat} (h : ((List.range hi).all fun j => decide (j < lo) || depOn md ops j i) = true) (j : Nat) (hd : depOn md ops j i = false) : j < lo ∨ hi ≤ j := by
  by_cases h1 : j < hi
  · have := List.all_eq_true.1 h j (List.mem_range.2 h1)
    simp only [hd, Bool.or_false, decide_eq_true_eq] at this
    exact .inl this
  · exact .inr (by omega)
/-- Take number i first: St is what it wants of the world; each operation that does not wait for it leaves that. -/
theorem wpAnyG_take {St : World → Prop} {i : Nat} {oi : Oper} {v : Value} {fuel : Nat} {listed : Array Bool} {a : Act} {w : World} (hi : (ops.toList.drop i).head? = some oi)
    (hs : Region.noSelect ops = true) (hf : Region.free md ops listed i = true) (hr : (Region.ready md ops listed).contains i = true)
    (hN : ∀ (j : Nat) (w : World), depOn md ops j i = false → N j w → St w)
    (hQ : ∀ c a w, Q (.panic c) (a.put oi.dst v) w → Q (.panic c) a w) (hy : YieldsIf P ops St oi v a) (hS : St w)
    (h : wpAnyG P md ops Q N fuel (listed.setIfInBounds i true) (a.put oi.dst v) w) : wpAnyG P md ops Q N (fuel + 1) listed a w :=
  wpAnyG_first (at_of_drop hi) (Region.noSelect_spec hs) hQ hN fuel listed a w (Region.free_spec (at_of_drop hi) hf) (by simpa using hr) hy hS h

/-- One operation alone may come up: it is walked as the only one of a plain region. -/
theorem wpAnyG_one {i : Nat} {oi : Oper} {fuel : Nat} {listed : Array Bool} {a : Act} {w : World} (hi : (ops.toList.drop i).head? = some oi) (hr : Region.ready md ops listed = [i])
    (h : wpList P ops (Exit.then (fun a' w' => (w' = w ∨ N i w') ∧ wpAnyG P md ops Q N fuel (listed.setIfInBounds i true) a' w') Q) [oi] a w) : wpAnyG P md ops Q N (fuel + 1) listed a w := by
  refine ⟨fun h0 => (by rw [hr] at h0; cases h0), fun j hj => ?_⟩
  rw [hr] at hj
  simp only [List.mem_singleton] at hj
  subst hj
  exact wpOp_one (at_of_drop hi) h

theorem wpAnyG_done {listed : Array Bool} {a : Act} {w : World} (hr : Region.ready md ops listed = []) (h : Q .normal a w) : ∀ fuel, wpAnyG P md ops Q N fuel listed a w
  | 0 => ⟨hr, h⟩
  | _ + 1 => ⟨fun _ => h, by rw [hr]; simp⟩


theorem wp_region_g {id : Nat} {a : Act} {w : World} (N : Nat → World → Prop) (hm : P.follows .mixedOrders = true)
    (h : wpAnyG P .any ops Q N ops.size (Array.replicate ops.size false) a w.drew) : (Code.region id ops true).wp P Q a w :=
  wp_region_any hm (wpAny_of_g _ _ _ _ h)

end
end Go.Proofs.YtfgggkheadfiaaaR
/- Contract: the last step of Commit. -/
namespace Go.Proofs.YtfgggkheadfiaaaR
open Go Go.RowKit
attribute [local go_sem ↓] Go.wp_at_zero Go.wp_at_succ

theorem inf28 : (Try.prog.info? 28).map (fun i => (i.zero.map (fun z => z.cells.toList), i.size, i.bytes)) = some (some [.slice none 0 0], 1, 24) := by kernel_rfl
theorem RowsB.snoc {w : World} {o : Own} {vs : List Value} {ls : List (List UInt8)} {v : Value} {l : List UInt8} (h : RowsB w o vs ls) (hb : Bytes w o v l) : RowsB w o (vs ++ [v]) (ls ++ [l]) := by
  refine ⟨by simp [h.1], fun i v' l' hv hl => ?_⟩
  by_cases hi : i < vs.length
  · rw [List.getElem?_append_left hi] at hv
    rw [List.getElem?_append_left (by rw [← h.1]; exact hi)] at hl
    exact h.2 i v' l' hv hl
  · rw [List.getElem?_append_right (by omega)] at hv
    rw [List.getElem?_append_right (by rw [← h.1]; omega), ← h.1] at hl
    cases hj : i - vs.length with
    | zero => rw [hj] at hv hl; simp at hv hl; subst hv; subst hl; exact hb
    | succ j => rw [hj] at hv; simp at hv
theorem RowsT.snoc {w : World} {o : Own} {vs : List Value} {ls : List (List UInt8)} {v : Value} {l : List UInt8} (h : RowsT w o vs ls) (hb : Bytes w o v l) (hm : Mine w o v) : RowsT w o (vs ++ [v]) (ls ++ [l]) :=
  ⟨h.1.snoc hb, fun x hx => by
    rcases List.mem_append.1 hx with hx | hx
    · exact h.2 x hx
    · simp only [List.mem_singleton] at hx; subst hx; exact hm⟩
def ext1 (W : World) (o : Own) : Own := fun k => if k < W.heap.size then o k else (0, 1)
/-- Bytes that a call has made anew, as a record's own. -/
theorem fresh_mine {T : Nat → Prop} {w w' : World} {o o' : Own} {v : Value} {l : List UInt8} (hs : Step T w o w' o') (h : NewB w w' o' v l) : ∃ o2, Step T w o w' o2 ∧ Bytes w' o2 v l ∧ Mine w' o2 v := by
  refine ⟨ext1 w o, ⟨hs.os, hs.tape, hs.output, hs.size, fun k hk => if_pos hk, hs.block⟩, ?_, fun b off n c e hn => ?_⟩
  · rcases h.bytes with h0 | ⟨b, off, cap, e, h1, h2, h3, h4, h5⟩
    · exact .inl h0
    · refine .inr ⟨b, off, cap, e, h1, h2, ?_, h4, h5⟩
      have := h.1.lt b (by rw [e]; rfl)
      unfold ext1; rw [if_neg (by omega)]
  · have := h.1.lt b (by rw [e]; rfl)
    exact ⟨this.2, by unfold ext1; rw [if_neg (by omega)]⟩
/-- A slice appended to a row of slices. -/
theorem run_append_slices (W : World) {base : Nat} (hbase : base ≤ W.heap.size) (v : Value) (n : Nat) (xs : List Value) (hown : W.ownsRow base 28 1 v n xs) (b : Nat) (x : Value) (hx : x.oneCell' = true) (hr : W.rangeAt b 0 [x]) (hn : n ≤ 1000000) :
    ∃ g cap w', (Builtin.append_ #[83, 83] 83 #[v, .slice (some ⟨b, 0, none⟩) 1 1]).run Try.prog W = .ok (.slice (some ⟨g, 0, none⟩) (n + 1) cap) w' ∧
      w'.ownsRow base 28 1 (.slice (some ⟨g, 0, none⟩) (n + 1) cap) (n + 1) (xs ++ [x]) ∧ W.grownBy w' v.ownBlock ∧ (v.ownBlock = some g ∨ g = W.heap.size) ∧ g < w'.heap.size :=
  run_append_row (P := Try.prog) W 83 83 28 Try.underlying83 inf28 rfl (by omega) hbase v n xs hown b 0 1 1 [x] rfl hr (by intro u hu; simp at hu; subst hu; exact hx) (by omega) (by omega) (by omega)

section
variable {w : World} {o : Own} {L D p pd : Nat} {s : LogM × DiskM}
set_option maxRecDepth 100000 in
set_option maxHeartbeats 3200000 in
theorem step4_any (hL : L ≠ 0) (hLD : L ≠ D) (h : LD w o L D p pd s) (b : List UInt8) (bv : Value) (hb : Bytes w o bv b) (hroom : LogM.many b ≤ s.1.n - s.1.end') (hblen : b.length ≤ 960000) (bl bb bm : Nat) (hl : Box w o bl 57 (.pointer (some ⟨p, 0, none⟩))) (hbb : Box w o bb 28 bv) (hm : Box w o bm 3 (.int .i64 (LogM.many b : Int))) :
    Calls Try.prog 88 #[.pointer (some ⟨bl, 0, none⟩), .pointer (some ⟨bb, 0, none⟩), .pointer (some ⟨bm, 0, none⟩)] w (Ret (In L D) w o fun v w' o' => v = .int .i64 (LogM.step4 b s).2 ∧ LD w' o' L D p pd (LogM.step4 b s).1) := by
  obtain ⟨m, d⟩ := s
  obtain ⟨hlg, hdk⟩ := h
  simp only at hlg hdk hroom
  have hwf := hlg.wf
  obtain ⟨g1, g2, g3, g4, g5, g6, g7⟩ := hlg.wf
  have hmp := LogM.many_pos b
  have cl := hl.cell
  have cb := hbb.cell
  have cm := hm.cell
  have tl : (o bl).1 ≠ L := by rw [hl.2]; exact fun e => hL e.symm
  have tb : (o bb).1 ≠ L := by rw [hbb.2]; exact fun e => hL e.symm
  have tm : (o bm).1 ≠ L := by rw [hm.2]; exact fun e => hL e.symm
  have hblp : bl ≠ p := by rintro rfl; have h1 := hl.2; have h2 := hlg.ofL; omega
  have hbbp : bb ≠ p := by rintro rfl; have h1 := hbb.2; have h2 := hlg.ofL; omega
  have hbmp : bm ≠ p := by rintro rfl; have h1 := hm.2; have h2 := hlg.ofL; omega
  obtain ⟨k, hk⟩ : ∃ k, LogM.many b = k := ⟨_, rfl⟩
  have hE : LogM.step4 b (m, d) = (({ m with records := m.records ++ [b], end' := m.end' + k }, d), 0) := by unfold LogM.step4; rw [hk]
  have hEH := hidden hE
  rw [hk] at hroom hmp hm cm
  have hdr : Step Nobody w o w.drew o := (Step.refl _ _ _).drew
  have hlg1 := hlg.step hdr (fun h => h) (fun h => h)
  have hdk1 := hdk.step hdr (fun h => h)
  have hb1 := hb.step hdr (fun h => h)
  have hcl := clone_any hb1 (by omega)
  obtain ⟨rv, vs, hp, hro, hv, op, orr, -⟩ := hlg1
  have hadd : (m.end' : Int) + (k : Int) = ((m.end' + k : Nat) : Int) := by omega
  have c5 : w.drew.cell? ⟨p, 5, none⟩ = some (.int .i64 (m.end' : Int)) := cell_of_block hp 5
  have c6 : w.drew.cell? ⟨p, 6, none⟩ = some rv := cell_of_block hp 6
  obtain ⟨ra, rc, hrv⟩ := own_form hro
  have hbf := slc_form hb
  obtain ⟨ba, bc, rfl⟩ := hbf
  have hroH := hidden hro
  have hpH := hidden hp
  have hvH := hidden hv
  subst hrv
  have opH := hidden op
  have hkH := hidden hk
  clear hE hl hbb hm hlg hdk hb hro hp hv op hk
  have he1 : (m.end' : Int) ≤ 2000 := by omega
  have hk1 : (k : Int) ≤ 2000 := by omega
  have wadd : IntKind.i64.wrap ((m.end' : Int) + (k : Int)) = ((m.end' + k : Nat) : Int) := by rw [wrap_i64 (by omega) (by omega)]; omega
  have haddH := hidden hadd
  have waddH := hidden wadd
  clear hadd wadd
  go_enter Try.func88, Try.ntmps88
  go_wp2_with fail
  have hK0 : (w.drew.cell? ⟨bl, 0, none⟩ = some (.pointer (some ⟨p, 0, none⟩)) ∧ w.drew.cell? ⟨bb, 0, none⟩ = some (.slice ba b.length bc) ∧ w.drew.cell? ⟨bm, 0, none⟩ = some (.int .i64 (k : Int))) := ⟨cl, cb, cm⟩
  have hC0 : (w.drew.cell? ⟨p, 5, none⟩ = some (.int .i64 (m.end' : Int)) ∧ w.drew.cell? ⟨p, 6, none⟩ = some (.slice ra m.records.length rc)) := ⟨c5, c6⟩
  refine wp_region_g (fun i w' => (w'.cell? ⟨bl, 0, none⟩ = some (.pointer (some ⟨p, 0, none⟩)) ∧ w'.cell? ⟨bb, 0, none⟩ = some (.slice ba b.length bc) ∧ w'.cell? ⟨bm, 0, none⟩ = some (.int .i64 (k : Int))) ∧ (i < 18 ∨ 22 ≤ i → (w'.cell? ⟨p, 5, none⟩ = some (.int .i64 (m.end' : Int)) ∧ w'.cell? ⟨p, 6, none⟩ = some (.slice ra m.records.length rc)))) (by kernel_rfl) ?_
  refine wpAnyG_take (i := 0) (St := (fun w' => (w'.cell? ⟨bl, 0, none⟩ = some (.pointer (some ⟨p, 0, none⟩)) ∧ w'.cell? ⟨bb, 0, none⟩ = some (.slice ba b.length bc) ∧ w'.cell? ⟨bm, 0, none⟩ = some (.int .i64 (k : Int))))) (v := ?_) rfl (by kernel_rfl) (by kernel_rfl) (by kernel_rfl) (fun j w hd h => h.1) (fun _ _ _ h => h) (Or.inl ⟨by rfl, ?_⟩) (hK0) ?_
  rotate_left
  · intro w hSw; ((try dsimp only at hSw); go_simp; (try with_reducible rfl))
  simp only [Act.put, List.setIfInBounds_toArray, List.set_cons_zero, List.set_cons_succ]
  refine wpAnyG_take (i := 1) (St := (fun w' => (w'.cell? ⟨bl, 0, none⟩ = some (.pointer (some ⟨p, 0, none⟩)) ∧ w'.cell? ⟨bb, 0, none⟩ = some (.slice ba b.length bc) ∧ w'.cell? ⟨bm, 0, none⟩ = some (.int .i64 (k : Int))))) (v := ?_) rfl (by kernel_rfl) (by kernel_rfl) (by kernel_rfl) (fun j w hd h => h.1) (fun _ _ _ h => h) (Or.inl ⟨by rfl, ?_⟩) (hK0) ?_
  rotate_left
  · intro w hSw; ((try dsimp only at hSw); go_simp; (try with_reducible rfl))
  simp only [Act.put, List.setIfInBounds_toArray, List.set_cons_zero, List.set_cons_succ]
  refine wpAnyG_take (i := 2) (St := (fun w' => (w'.cell? ⟨bl, 0, none⟩ = some (.pointer (some ⟨p, 0, none⟩)) ∧ w'.cell? ⟨bb, 0, none⟩ = some (.slice ba b.length bc) ∧ w'.cell? ⟨bm, 0, none⟩ = some (.int .i64 (k : Int))))) (v := ?_) rfl (by kernel_rfl) (by kernel_rfl) (by kernel_rfl) (fun j w hd h => h.1) (fun _ _ _ h => h) (Or.inl ⟨by rfl, ?_⟩) (hK0) ?_
  rotate_left
  · intro w hSw; ((try dsimp only at hSw); go_simp; (try with_reducible rfl))
  simp only [Act.put, List.setIfInBounds_toArray, List.set_cons_zero, List.set_cons_succ]
  refine wpAnyG_take (i := 3) (St := (fun _ => True)) (v := ?_) rfl (by kernel_rfl) (by kernel_rfl) (by kernel_rfl) (fun _ _ _ _ => trivial) (fun _ _ _ h => h) (Or.inl ⟨by rfl, ?_⟩) (trivial) ?_
  rotate_left
  · intro w hSw; ((try dsimp only at hSw); go_simp; (try with_reducible rfl))
  simp only [Act.put, List.setIfInBounds_toArray, List.set_cons_zero, List.set_cons_succ]
  refine wpAnyG_take (i := 4) (St := (fun _ => True)) (v := ?_) rfl (by kernel_rfl) (by kernel_rfl) (by kernel_rfl) (fun _ _ _ _ => trivial) (fun _ _ _ h => h) (Or.inl ⟨by rfl, ?_⟩) (trivial) ?_
  rotate_left
  · intro w hSw; ((try dsimp only at hSw); go_simp; (try with_reducible rfl))
  simp only [Act.put, List.setIfInBounds_toArray, List.set_cons_zero, List.set_cons_succ]
  refine wpAnyG_take (i := 5) (St := (fun w' => (w'.cell? ⟨bl, 0, none⟩ = some (.pointer (some ⟨p, 0, none⟩)) ∧ w'.cell? ⟨bb, 0, none⟩ = some (.slice ba b.length bc) ∧ w'.cell? ⟨bm, 0, none⟩ = some (.int .i64 (k : Int))) ∧ (w'.cell? ⟨p, 5, none⟩ = some (.int .i64 (m.end' : Int)) ∧ w'.cell? ⟨p, 6, none⟩ = some (.slice ra m.records.length rc)))) (v := ?_) rfl (by kernel_rfl) (by kernel_rfl) (by kernel_rfl) (fun j w hd h => ⟨h.1, h.2 (dep_out (lo := 18) (hi := 22) (by kernel_rfl) j hd)⟩) (fun _ _ _ h => h) (Or.inl ⟨by rfl, ?_⟩) (⟨hK0, hC0⟩) ?_
  rotate_left
  · intro w hSw; ((try dsimp only at hSw); go_simp; (try with_reducible rfl))
  simp only [Act.put, List.setIfInBounds_toArray, List.set_cons_zero, List.set_cons_succ]
  refine wpAnyG_take (i := 6) (St := (fun w' => (w'.cell? ⟨bl, 0, none⟩ = some (.pointer (some ⟨p, 0, none⟩)) ∧ w'.cell? ⟨bb, 0, none⟩ = some (.slice ba b.length bc) ∧ w'.cell? ⟨bm, 0, none⟩ = some (.int .i64 (k : Int))))) (v := ?_) rfl (by kernel_rfl) (by kernel_rfl) (by kernel_rfl) (fun j w hd h => h.1) (fun _ _ _ h => h) (Or.inl ⟨by rfl, ?_⟩) (hK0) ?_
  rotate_left
  · intro w hSw; ((try dsimp only at hSw); go_simp; (try with_reducible rfl))
  simp only [Act.put, List.setIfInBounds_toArray, List.set_cons_zero, List.set_cons_succ]
  refine wpAnyG_take (i := 10) (St := (fun w' => (w'.cell? ⟨bl, 0, none⟩ = some (.pointer (some ⟨p, 0, none⟩)) ∧ w'.cell? ⟨bb, 0, none⟩ = some (.slice ba b.length bc) ∧ w'.cell? ⟨bm, 0, none⟩ = some (.int .i64 (k : Int))))) (v := ?_) rfl (by kernel_rfl) (by kernel_rfl) (by kernel_rfl) (fun j w hd h => h.1) (fun _ _ _ h => h) (Or.inl ⟨by rfl, ?_⟩) (hK0) ?_
  rotate_left
  · intro w hSw; ((try dsimp only at hSw); go_simp; (try with_reducible rfl))
  simp only [Act.put, List.setIfInBounds_toArray, List.set_cons_zero, List.set_cons_succ]
  refine wpAnyG_take (i := 11) (St := (fun _ => True)) (v := ?_) rfl (by kernel_rfl) (by kernel_rfl) (by kernel_rfl) (fun _ _ _ _ => trivial) (fun _ _ _ h => h) (Or.inl ⟨by rfl, ?_⟩) (trivial) ?_
  rotate_left
  · intro w hSw; ((try dsimp only at hSw); go_simp; (try with_reducible rfl))
  simp only [Act.put, List.setIfInBounds_toArray, List.set_cons_zero, List.set_cons_succ]
  refine wpAnyG_take (i := 12) (St := (fun _ => True)) (v := ?_) rfl (by kernel_rfl) (by kernel_rfl) (by kernel_rfl) (fun _ _ _ _ => trivial) (fun _ _ _ h => h) (Or.inl ⟨by rfl, ?_⟩) (trivial) ?_
  rotate_left
  · intro w hSw; ((try dsimp only at hSw); go_simp; (try with_reducible rfl))
  simp only [Act.put, List.setIfInBounds_toArray, List.set_cons_zero, List.set_cons_succ]
  refine wpAnyG_take (i := 13) (St := (fun w' => (w'.cell? ⟨bl, 0, none⟩ = some (.pointer (some ⟨p, 0, none⟩)) ∧ w'.cell? ⟨bb, 0, none⟩ = some (.slice ba b.length bc) ∧ w'.cell? ⟨bm, 0, none⟩ = some (.int .i64 (k : Int))) ∧ (w'.cell? ⟨p, 5, none⟩ = some (.int .i64 (m.end' : Int)) ∧ w'.cell? ⟨p, 6, none⟩ = some (.slice ra m.records.length rc)))) (v := ?_) rfl (by kernel_rfl) (by kernel_rfl) (by kernel_rfl) (fun j w hd h => ⟨h.1, h.2 (dep_out (lo := 18) (hi := 22) (by kernel_rfl) j hd)⟩) (fun _ _ _ h => h) (Or.inl ⟨by rfl, ?_⟩) (⟨hK0, hC0⟩) ?_
  rotate_left
  · intro w hSw; ((try dsimp only at hSw); go_simp; (try with_reducible rfl))
  simp only [Act.put, List.setIfInBounds_toArray, List.set_cons_zero, List.set_cons_succ]
  refine wpAnyG_take (i := 14) (St := (fun w' => (w'.cell? ⟨bl, 0, none⟩ = some (.pointer (some ⟨p, 0, none⟩)) ∧ w'.cell? ⟨bb, 0, none⟩ = some (.slice ba b.length bc) ∧ w'.cell? ⟨bm, 0, none⟩ = some (.int .i64 (k : Int))))) (v := ?_) rfl (by kernel_rfl) (by kernel_rfl) (by kernel_rfl) (fun j w hd h => h.1) (fun _ _ _ h => h) (Or.inl ⟨by rfl, ?_⟩) (hK0) ?_
  rotate_left
  · intro w hSw; ((try dsimp only at hSw); go_simp; (try with_reducible rfl))
  simp only [Act.put, List.setIfInBounds_toArray, List.set_cons_zero, List.set_cons_succ]
  refine wpAnyG_take (i := 15) (St := (fun _ => True)) (v := ?_) rfl (by kernel_rfl) (by kernel_rfl) (by kernel_rfl) (fun _ _ _ _ => trivial) (fun _ _ _ h => h) (Or.inl ⟨by rfl, ?_⟩) (trivial) ?_
  rotate_left
  · intro w hSw; ((try dsimp only at hSw); go_simp; (try with_reducible rfl))
  simp only [Act.put, List.setIfInBounds_toArray, List.set_cons_zero, List.set_cons_succ]
  refine wpAnyG_one (i := 7) rfl (by kernel_rfl) ?_
  rw [waddH.out]
  go_wp2_with fail
  refine hcl.mono ?_; rintro e w1 ⟨v1, o0', rfl, hs0', hn1⟩
  obtain ⟨o1, hs1, hbv1, hmv1⟩ := fresh_mine hs0' hn1
  clear hs0' hn1
  obtain ⟨va, vc, rfl⟩ := slc_form hbv1
  have hblt := World.block_lt_of_cell? _ _ hK0.1
  have hpl : p < w.drew.heap.size := lt_of_block hpH.out
  have keep : ∀ (x y : World) (ox oy : Own), Step Nobody x ox y oy → w.drew.heap.size ≤ x.heap.size → ((x.cell? ⟨bl, 0, none⟩ = some (.pointer (some ⟨p, 0, none⟩)) ∧ x.cell? ⟨bb, 0, none⟩ = some (.slice ba b.length bc) ∧ x.cell? ⟨bm, 0, none⟩ = some (.int .i64 (k : Int))) ∧ (x.cell? ⟨p, 5, none⟩ = some (.int .i64 (m.end' : Int)) ∧ x.cell? ⟨p, 6, none⟩ = some (.slice ra m.records.length rc))) → ((y.cell? ⟨bl, 0, none⟩ = some (.pointer (some ⟨p, 0, none⟩)) ∧ y.cell? ⟨bb, 0, none⟩ = some (.slice ba b.length bc) ∧ y.cell? ⟨bm, 0, none⟩ = some (.int .i64 (k : Int))) ∧ (y.cell? ⟨p, 5, none⟩ = some (.int .i64 (m.end' : Int)) ∧ y.cell? ⟨p, 6, none⟩ = some (.slice ra m.records.length rc))) := fun x y ox oy hs hle h => by
    have e1 := hs.block bl (Nat.lt_of_lt_of_le (World.block_lt_of_cell? _ _ hK0.1) hle) (fun h => h)
    have e2 := hs.block bb (Nat.lt_of_lt_of_le (World.block_lt_of_cell? _ _ hK0.2.1) hle) (fun h => h)
    have e3 := hs.block bm (Nat.lt_of_lt_of_le (World.block_lt_of_cell? _ _ hK0.2.2) hle) (fun h => h)
    have e4 := hs.block p (Nat.lt_of_lt_of_le hpl hle) (fun h => h)
    exact ⟨⟨(World.cell?_of_block (a := ⟨bl, 0, none⟩) e1).trans h.1.1, (World.cell?_of_block (a := ⟨bb, 0, none⟩) e2).trans h.1.2.1, (World.cell?_of_block (a := ⟨bm, 0, none⟩) e3).trans h.1.2.2⟩,
      (World.cell?_of_block (a := ⟨p, 5, none⟩) e4).trans h.2.1, (World.cell?_of_block (a := ⟨p, 6, none⟩) e4).trans h.2.2⟩
  have hKC1 := keep _ _ _ _ hs1 (Nat.le_refl _) ⟨hK0, hC0⟩
  go_wp2_with fail
  refine ⟨.inr ⟨hKC1.1, fun _ => hKC1.2⟩, ?_⟩
  have hsz1 := hs1.size
  have hsN : Step Nobody w1 o1 _ _ := (Step.refl _ w1 o1).alloc (.cells #[.slice va b.length vc] 28) (0, 0)
  have hKC2 := keep _ _ _ _ hsN hsz1 hKC1
  have hnb : (w1.alloc (.cells #[.slice va b.length vc] 28)).heap[w1.heap.size]? = some (.cells #[.slice va b.length vc] 28 (0, 0)) := heap_alloc_new w1 _
  refine wpAnyG_one (i := 8) rfl (by kernel_rfl) ?_
  go_wp2_with fail
  refine ⟨.inr ⟨hKC2.1, fun _ => hKC2.2⟩, ?_⟩
  have hs2 := hs1.trans hsN
  have hrow2 := ownsRow_same hroH.out (fun k hk => hs2.block k (hroH.out.lt k hk).2 (fun h => h))
  have hvs2 := hvH.out.step hs2 (fun h => h)
  have hbv2 := hbv1.step hsN (fun h => h)
  have hmv2 := hmv1.step hsN
  have hdk2 := hdk1.step hs2 (fun h => h)
  have hp2 := (hs2.block p hpl (fun h => h)).trans hpH.out
  have op2 := (hs2.own p hpl).trans opH.out
  have horr2 : ∀ k, (Value.slice ra m.records.length rc).ownBlock = some k → tagAt o1 w1.heap.size (0, 0) k = (L, 1) := fun k hk => (hs2.own k (hroH.out.lt k hk).2).trans (orr k hk)
  have hsT := hdr.trans hs2
  generalize hW2 : w1.alloc (.cells #[.slice va b.length vc] 28) = W2 at *
  generalize tagAt o1 w1.heap.size (0, 0) = o2 at *
  obtain ⟨g, cap, w3, hrun, hown3, hgrow, hat, hlt3⟩ := run_append_slices W2 (Nat.zero_le _) _ _ _ hrow2 w1.heap.size (.slice va b.length vc) rfl (range_whole (cs := [.slice va b.length vc]) hnb) (by omega)
  have hW2s : w1.heap.size < W2.heap.size := lt_of_block hnb
  have hgt : o2 g = (L, 1) ∨ W2.heap.size ≤ g := by
    rcases hat with hat | hat
    · exact .inl (horr2 g hat)
    · exact .inr (by omega)
  have hs3 : Step (Only L) W2 o2 w3 (tagAt o2 g (L, 1)) := (Step.refl (Only L) W2 o2).grown hgrow (fun k hk => .inl (by rw [horr2 k hk]; rfl)) g (L, 1) hgt
  have hplW : p < W2.heap.size := lt_of_block hp2
  have hgp : p ≠ g := by
    rintro rfl
    rcases hgt with h1 | h1
    · rw [op2] at h1; simp at h1
    · omega
  have hp3 : w3.heap[p]? = some (.cells (m.cells pd (.slice ra m.records.length rc)).toArray 135 (0, 0)) := by
    rw [hgrow.block p hplW (by intro hx; have := horr2 p hx.symm; rw [op2] at this; simp at this)]; exact hp2
  have hN0 : ¬ Only L 0 := fun h => hL h.symm
  have hvs3 := (hvs2.snoc hbv2 hmv2).step hs3 hN0
  have hdk3 := hdk2.step hs3 (fun e => hLD e.symm)
  have nL : ∀ k, k < W2.heap.size → ¬ Only L (o2 k).1 → w3.heap[k]? = W2.heap[k]? := fun k hk ht => hs3.block k hk ht
  have notL : ∀ k, k < w.drew.heap.size → (o k).1 ≠ L → ¬ Only L (o2 k).1 := fun k hk h hx => h (by rw [← hs2.own k hk]; exact hx)
  have hszd : w.drew.heap.size ≤ W2.heap.size := hs2.size
  have kl := World.block_lt_of_cell? _ _ hK0.1
  have kb := World.block_lt_of_cell? _ _ hK0.2.1
  have km := World.block_lt_of_cell? _ _ hK0.2.2
  have kp : w3.heap[p]? = W2.heap[p]? := hp3.trans hp2.symm
  have hK3 : (w3.cell? ⟨bl, 0, none⟩ = some (.pointer (some ⟨p, 0, none⟩)) ∧ w3.cell? ⟨bb, 0, none⟩ = some (.slice ba b.length bc) ∧ w3.cell? ⟨bm, 0, none⟩ = some (.int .i64 (k : Int))) ∧ (w3.cell? ⟨p, 5, none⟩ = some (.int .i64 (m.end' : Int)) ∧ w3.cell? ⟨p, 6, none⟩ = some (.slice ra m.records.length rc)) := ⟨⟨(World.cell?_of_block (a := ⟨bl, 0, none⟩) (nL bl (Nat.lt_of_lt_of_le kl hszd) (notL bl kl tl))).trans hKC2.1.1, (World.cell?_of_block (a := ⟨bb, 0, none⟩) (nL bb (Nat.lt_of_lt_of_le kb hszd) (notL bb kb tb))).trans hKC2.1.2.1, (World.cell?_of_block (a := ⟨bm, 0, none⟩) (nL bm (Nat.lt_of_lt_of_le km hszd) (notL bm km tm))).trans hKC2.1.2.2⟩,
      (World.cell?_of_block (a := ⟨p, 5, none⟩) kp).trans hKC2.2.1, (World.cell?_of_block (a := ⟨p, 6, none⟩) kp).trans hKC2.2.2⟩
  have hrunH := hidden hrun
  clear hrun hat hrow2 hvs2 hbv2 hdk2 hKC2 hKC1 hcl hbv1 hmv1 hmv2 keep hnb hW2
  refine wpAnyG_one (i := 9) rfl (by kernel_rfl) ?_
  refine lit_append hrunH.out ?_
  refine wpList_nil ?_
  refine ⟨.inr ⟨hK3.1, fun _ => hK3.2⟩, ?_⟩
  simp only [Act.put, List.setIfInBounds_toArray, List.set_cons_zero, List.set_cons_succ]
  have q5 := hK3.2.1
  have q6 := hK3.2.2
  have f5 := free_of_block hp3 5
  have f6 := free_of_block hp3 6
  have K4 : ((w3.setCell ⟨p, 6, none⟩ (.slice (some ⟨g, 0, none⟩) (m.records.length + 1) cap)).cell? ⟨bl, 0, none⟩ = some (.pointer (some ⟨p, 0, none⟩)) ∧ (w3.setCell ⟨p, 6, none⟩ (.slice (some ⟨g, 0, none⟩) (m.records.length + 1) cap)).cell? ⟨bb, 0, none⟩ = some (.slice ba b.length bc) ∧ (w3.setCell ⟨p, 6, none⟩ (.slice (some ⟨g, 0, none⟩) (m.records.length + 1) cap)).cell? ⟨bm, 0, none⟩ = some (.int .i64 (k : Int))) := ⟨by rw [World.cell?_setCell_other _ _ _ _ (by simp)]; exact hK3.1.1, by rw [World.cell?_setCell_other _ _ _ _ (by simp)]; exact hK3.1.2.1, by rw [World.cell?_setCell_other _ _ _ _ (by simp)]; exact hK3.1.2.2⟩
  have K5 : (((w3.setCell ⟨p, 6, none⟩ (.slice (some ⟨g, 0, none⟩) (m.records.length + 1) cap)).setCell ⟨p, 5, none⟩ (.int .i64 ((m.end' + k : Nat) : Int))).cell? ⟨bl, 0, none⟩ = some (.pointer (some ⟨p, 0, none⟩)) ∧ ((w3.setCell ⟨p, 6, none⟩ (.slice (some ⟨g, 0, none⟩) (m.records.length + 1) cap)).setCell ⟨p, 5, none⟩ (.int .i64 ((m.end' + k : Nat) : Int))).cell? ⟨bb, 0, none⟩ = some (.slice ba b.length bc) ∧ ((w3.setCell ⟨p, 6, none⟩ (.slice (some ⟨g, 0, none⟩) (m.records.length + 1) cap)).setCell ⟨p, 5, none⟩ (.int .i64 ((m.end' + k : Nat) : Int))).cell? ⟨bm, 0, none⟩ = some (.int .i64 (k : Int))) := ⟨by rw [World.cell?_setCell_other _ _ _ _ (by simp)]; exact K4.1, by rw [World.cell?_setCell_other _ _ _ _ (by simp)]; exact K4.2.1, by rw [World.cell?_setCell_other _ _ _ _ (by simp)]; exact K4.2.2⟩
  have hwf' : ({ m with records := m.records ++ [b], end' := m.end' + k } : LogM).wf := by
    refine ⟨g1, g2, g3, by show 1 ≤ m.end' + k; omega, by show m.end' + k ≤ m.n; omega, by show (m.records ++ [b]).length + 1 ≤ m.end' + k; simp only [List.length_append, List.length_cons, List.length_nil]; omega, ?_⟩
    intro r hr
    rcases List.mem_append.1 hr with hr | hr
    · exact g7 r hr
    · simp only [List.mem_singleton] at hr; subst hr; exact hblen
  have op3 : tagAt o2 g (L, 1) p = (L, 0) := by rw [tagAt_other _ _ hgp]; exact op2
  have hs45 : Step (Only L) w3 (tagAt o2 g (L, 1)) ((w3.setCell ⟨p, 6, none⟩ (.slice (some ⟨g, 0, none⟩) (m.records.length + 1) cap)).setCell ⟨p, 5, none⟩ (.int .i64 ((m.end' + k : Nat) : Int))) (tagAt o2 g (L, 1)) :=
    ((Step.refl (Only L) w3 (tagAt o2 g (L, 1))).setCell (a := ⟨p, 6, none⟩) _ (.inl (by show (tagAt o2 g (L, 1) p).1 = L; rw [op3]))).setCell (a := ⟨p, 5, none⟩) _ (.inl (by show (tagAt o2 g (L, 1) p).1 = L; rw [op3]))
  have hlog : LogAt ((w3.setCell ⟨p, 6, none⟩ (.slice (some ⟨g, 0, none⟩) (m.records.length + 1) cap)).setCell ⟨p, 5, none⟩ (.int .i64 ((m.end' + k : Nat) : Int))) (tagAt o2 g (L, 1)) L p pd { m with records := m.records ++ [b], end' := m.end' + k } := by
    refine ⟨.slice (some ⟨g, 0, none⟩) (m.records.length + 1) cap, vs ++ [.slice va b.length vc], heap_setCell_at (i := 5) _ (heap_setCell_at (i := 6) _ hp3), ?_, hvs3.step hs45 hN0, op3, ?_, hwf'⟩
    · have : (m.records ++ [b]).length = m.records.length + 1 := by simp
      show World.ownsRow _ 0 28 1 _ (m.records ++ [b]).length _
      rw [this]
      refine ownsRow_same hown3 fun k hk => ?_
      simp only [Value.ownBlock, Option.some.injEq] at hk
      subst hk
      rw [Below.heap_setCell _ _ _ _ (Ne.symm hgp), Below.heap_setCell _ _ _ _ (Ne.symm hgp)]
    · intro k hk
      simp only [Value.ownBlock, Option.some.injEq] at hk
      subst hk; exact tagAt_same _ _ _
  have hfin : Step (In L D) w o _ _ := (((hsT.only L).trans hs3).trans hs45).inL
  have hdkF := hdk3.step hs45 (fun e => hLD e.symm)
  have hfH := hidden (show _ ∧ _ ∧ _ from ⟨hfin, hlog, hdkF⟩)
  have K4H := hidden K4
  have K5H := hidden K5
  clear K4 K5 hfin hlog hdkF hs45 op3 hwf' hvs3 hdk3 hp3 kp hK3 hs3 hsT hs2 hsN hs1 hown3 hgrow nL notL hdk1
  refine wpAnyG_one (i := 16) rfl (by kernel_rfl) ?_
  go_wp2_with fail
  (first | refine ⟨.inl trivial, ?_⟩ | refine ⟨.inl rfl, ?_⟩ | skip)
  refine wpAnyG_one (i := 17) rfl (by kernel_rfl) ?_
  go_wp2_with fail
  (first | refine ⟨.inl trivial, ?_⟩ | refine ⟨.inl rfl, ?_⟩ | skip)
  refine wpAnyG_one (i := 18) rfl (by kernel_rfl) ?_
  go_wp2_with fail
  refine ⟨.inr ⟨K4H.out, fun h => by rcases h with h | h <;> omega⟩, ?_⟩
  refine wpAnyG_one (i := 19) rfl (by kernel_rfl) ?_
  go_wp2_with fail
  (first | refine ⟨.inl trivial, ?_⟩ | refine ⟨.inl rfl, ?_⟩ | skip)
  refine wpAnyG_one (i := 20) rfl (by kernel_rfl) ?_
  go_wp2_with fail
  (first | refine ⟨.inl trivial, ?_⟩ | refine ⟨.inl rfl, ?_⟩ | skip)
  refine wpAnyG_one (i := 21) rfl (by kernel_rfl) ?_
  go_wp2_with fail
  refine ⟨.inr ⟨K5H.out, fun h => by rcases h with h | h <;> omega⟩, ?_⟩
  refine wpAnyG_done (by kernel_rfl) ?_ _
  clear q5 q6 f5 f6
  go_wp2_with fail
  go_ret
  rw [hEH.out]
  exact ⟨_, _, rfl, hfH.out.1, rfl, hfH.out.2.1, hfH.out.2.2⟩
end
end Go.Proofs.YtfgggkheadfiaaaR
/- The range over log.cut: the iterator's contract; a region that draws, within a round. -/
namespace Go.Proofs.YtfgggkheadfiaaaR
open Go Go.RowKit Go.Shelf
attribute [local go_sem] Oper.semAt_some

/-! ### A region within a round -/
section
variable {P : Program} {ops : Array Oper} {Q : Exit → Act → World → Prop} {md : Region.Mode} {n l : Nat}
theorem rowsIn_wide {row : String} {args : Array Value} {w : World} {R : Value → World → Prop} (h : Rows P row args w R) : RowsIn (Fence.wide.inRound l) n P row args w R :=
  fun c cs _ => let ⟨v, w', r, s⟩ := h c cs; ⟨v, w', r, stepsIn_wide.2 s⟩
theorem wpOp_in (hdef : ∀ (o : Oper) (c : Call), o ∈ ops → o.op ≠ .defer c) (hno : ¬ LetsOut Q) {i : Nat} {K : Act → World → Prop} {a : Act} {w : World} (h : wpOp P ops Q i K a w) : wpOpIn (Fence.wide.inRound l) n P ops Q i K a w := by
  unfold wpOp at h
  unfold wpOpIn
  cases ho : ops[i]? with
  | none => simpa [ho] using h
  | some o =>
    simp only [ho] at h ⊢
    split
    · rename_i hw
      rw [if_pos hw] at h
      rcases h with h | ⟨_, hl⟩
      · refine ⟨fun _ _ => trivial, ?_⟩
        have hs : Oper.semAt (Fence.wide.inRound l).round a.eval o = execOp a.eval o := Oper.semAt_some l a.eval o (fun c => hdef o c (Array.mem_of_getElem? ho))
        rw [hs]
        unfold Oper.wp at h
        generalize (execOp a.eval o).run P w = r at *
        cases r with
        | ok x w' =>
          cases x <;> simp only [Oper.upon, Oper.uponIn] at h ⊢
          case value u => exact h
          case skip => exact h
          case defer d => exact h
          case enter f args => exact ⟨fun hd => by simp [Fence.wide, Fence.inRound] at hd, CallsIn.inRound l (callsIn_wide.2 h)⟩
          case row row args => exact ⟨fun hd => by simp [Fence.wide, Fence.inRound] at hd, rowsIn_wide h⟩
        | halt x w' =>
          cases x <;> simp only [Oper.upon, Oper.uponIn] at h ⊢
          case panic u => exact h
      · exact absurd hl hno
    · rename_i hw
      rw [if_neg hw] at h
      exact ⟨fun _ _ => trivial, h⟩
theorem wpAny_in (hdef : ∀ (o : Oper) (c : Call), o ∈ ops → o.op ≠ .defer c) (hno : ¬ LetsOut Q) : ∀ (fuel : Nat) (listed : Array Bool) (a : Act) (w : World), wpAny P md ops Q fuel listed a w → wpAnyIn (Fence.wide.inRound l) n P md ops Q fuel listed a w
  | 0, _, _, _, h => h
  | fuel + 1, _listed, _a, _w, h => ⟨h.1, fun i hi => wpOp_in hdef hno (wpOp_mono (fun a' w' h' => wpAny_in hdef hno fuel _ a' w' h') (h.2 i hi))⟩
def noDefer (ops : Array Oper) : Bool := ops.all fun o => match o.op with | .defer _ => false | _ => true
theorem noDefer_spec (h : noDefer ops = true) (o : Oper) (c : Call) (ho : o ∈ ops) : o.op ≠ .defer c := by
  intro heq
  have := Array.all_eq_true_iff_forall_mem.1 h o ho
  simp [heq] at this
/-- A region that draws, within a round, by whatever is proved of it outside. -/
theorem wp_region_round {id : Nat} {a : Act} {w : World} (S : World → Prop) (need : Nat → Bool) (hm : P.follows .mixedOrders = true) (hdef : noDefer ops = true) (hno : ¬ LetsOut Q) (hS : S w.drew)
    (h : S w.drew → wpAnyN P .any ops Q S need ops.size (Array.replicate ops.size false) a w.drew) : (Code.region id ops true).wpIn (Fence.wide.inRound l) n P Q a w :=
  wpIn_region_any hm (wpAny_in (noDefer_spec hdef) hno _ _ _ _ (wpAny_of_need _ _ _ _ (h hS)))
end

/-! ### log.cut -/
/-- Part number k of a slice. -/
def partV (v : Value) (k : Nat) : Value := match v with
  | .slice a len cap => if k = 0 then .slice a (min len 480) cap else match a with
    | some x => .slice (some ⟨x.block, x.off + k * 480, none⟩) (min len ((k + 1) * 480) - k * 480) (cap - k * 480)
    | none => undef
  | _ => undef
theorem part_bytes {w : World} {o : Own} {v : Value} {l : List UInt8} (h : Bytes w o v l) (k : Nat) (hk : k < LogM.many l) : Bytes w o (partV v k) (LogM.part l k) := by
  have hmany : k = 0 ∨ 480 * k < l.length := by unfold LogM.many at hk; omega
  unfold LogM.part
  rcases h.cases with ⟨⟨a, c, rfl⟩, rfl⟩ | ⟨b, off, cap, rfl, hcl, hcm, ho, hb, hr⟩
  · have : k = 0 := by simp at hmany; omega
    subst this
    exact .inl ⟨⟨_, _, by simp [partV]; exact ⟨rfl, rfl⟩⟩, by simp, by simp⟩
  · by_cases h0 : k = 0
    · subst h0
      have := h.part 0 (min l.length 480) (by omega) (by omega)
      simp only [Nat.add_zero, Nat.sub_zero, List.drop_zero] at this
      simp only [partV, if_true, Nat.mul_zero, List.drop_zero]
      have e : l.take 480 = l.take (min l.length 480) := by
        by_cases hl : l.length ≤ 480
        · rw [Nat.min_eq_left hl, List.take_length, List.take_of_length_le hl]
        · rw [Nat.min_eq_right (by omega)]
      rw [e]; exact this
    · have := h.part (480 * k) (min l.length (480 * (k + 1))) (by omega) (by omega)
      simp only [partV, if_neg h0]
      rw [Nat.mul_comm k 480, Nat.mul_comm (k + 1) 480]
      have e : (l.drop (480 * k)).take 480 = (l.drop (480 * k)).take (min l.length (480 * (k + 1)) - 480 * k) := by
        by_cases hl : l.length ≤ 480 * (k + 1)
        · rw [Nat.min_eq_left hl, List.take_of_length_le (by simp; omega), List.take_of_length_le (by simp)]
        · rw [Nat.min_eq_right (by omega)]
          congr 1; omega
      rw [e]; exact this
set_option maxRecDepth 100000 in
theorem cut_any (w : World) (a : Option Addr) (n c : Nat) : Calls Try.prog 86 #[.slice a n c] w fun e w' => e = .returned (.func (.func 116) #[] #[.pointer (some ⟨w.heap.size, 0, none⟩)]) ∧ w' = w.alloc (.cells #[.slice a n c] 28) := by
  go_enter Try.func86, Try.ntmps86
  go_wp2
  go_ret
  exact ⟨rfl, rfl⟩

set_option maxRecDepth 100000 in
set_option maxHeartbeats 2000000 in
theorem cut1_in (n : Nat) (hn : 1 ≤ n) (l bx : Nat) (a : Option Addr) (len cap : Nat) (hsome : 480 < len → ∃ b off, a = some ⟨b, off, none⟩) (hcap : len ≤ cap) (hlen : cap ≤ 9223372036854775807) (hlen2 : len ≤ 1000000000) (many : Nat) (hmany : many = max 1 ((len + 479) / 480)) (J Jx : List (Fin many) → World → Prop)
    (hY : ∀ (pre : List (Fin many)) (x : Fin many) (W : World), J pre W → pre.length < many → YieldAt Fence.wide (n - 1) Try.prog l #[.int .i64 (x.val : Int), partV (.slice a len cap) x.val] W fun e W' =>
      (e = .returned (.bool true) ∧ J (pre ++ [x]) W' ∧ W'.heap[bx]? = W.heap[bx]?) ∨ (e = .returned (.bool false) ∧ Jx (pre ++ [x]) W'))
    (W : World) (hBs : W.heap[bx]? = some (.cells #[.slice a len cap] 28 (0, 0))) (h0 : J [] W) :
    CallsIn Fence.wide n Try.prog 116 #[.func (.yield l) #[] #[], .pointer (some ⟨bx, 0, none⟩)] W fun e W' => (∃ v, e = .returned v) ∧
      ((∃ ys, ys.map (·.val) = List.range many ∧ J ys W') ∨ (∃ pre, (∃ k, k ≤ many ∧ 1 ≤ k ∧ pre.map (·.val) = List.range k) ∧ Jx pre W')) := by
  refine callsIn_of_wp Try.func116 rfl trivial ?_ rfl
  simp only [Try.ntmps116, List.size_toArray, List.length_cons, List.length_nil, Nat.reduceAdd, Nat.reduceSub, Array.replicate_succ, Array.replicate_zero, List.push_toArray, List.append_toArray, List.nil_append, List.cons_append]
  have hmanyH := hidden hmany
  clear hmany
  gi_wp2
  gi_loopw [3] (fun i wr => ∃ k : Nat, k ≤ many ∧ i = .int .i64 k ∧ (∃ pre : List (Fin many), pre.map (·.val) = List.range k ∧ J pre wr) ∧ wr.heap[bx]? = some (.cells #[.slice a len cap] 28 (0, 0)))
    (fun i _ => many - (intOf i).toNat)
  case atStart => exact ⟨0, Nat.zero_le _, rfl, ⟨[], rfl, h0⟩, hBs⟩
  case round =>
    clear hBs h0
    obtain ⟨k, hk, rfl, ⟨pre, hpre, hJs⟩, hbx⟩ := hrel
    have hplen : pre.length = k := by have := congrArg List.length hpre; simpa using this
    have hpreH := hidden hpre
    have hplH := hidden hplen
    clear hpre hplen
    have cb : wr.cell? ⟨bx, 0, none⟩ = some (.slice a len cap) := cell_of_one hbx
    by_cases hk0 : k = 0
    · subst hk0
      have hlt : 0 < many := by have := hmanyH.out; omega
      obtain ⟨fn, tmps, assign, body, hy, hR⟩ := hY _ ⟨0, hlt⟩ wr hJs (by rw [hplH.out]; exact hlt)
      have hpv : partV (.slice a len cap) 0 = .slice a (min len 480) cap := by simp [partV]
      dsimp only at hy
      have e0 : ((0 : Nat) : Int) = 0 := rfl
      rw [hpv, e0] at hy
      clear e0 hpv hY
      by_cases h480 : len ≤ 480
      · rw [Nat.min_eq_left h480] at hy
        have i480 : (len : Int) ≤ 480 := by omega
        gi_wp2
        refine hR.mono ?_
        rintro e W3 (⟨rfl, hJ3, hk3⟩ | ⟨rfl, hJx3⟩)
        · gi_wp2
          go_roundw
          case rel => exact ⟨0 + 1, hlt, by go_num, ⟨_, by rw [List.range_succ, List.map_append, hpreH.out]; rfl, hJ3⟩, hk3.trans hbx⟩
          case measure => simp [intOf]; omega
        · gi_wp2
          refine bodyPost_ret (results_none rfl _ _ _) rfl ?_
          exact ⟨⟨_, rfl⟩, .inr ⟨_, ⟨0 + 1, hlt, by omega, by rw [List.range_succ, List.map_append, hpreH.out]; rfl⟩, hJx3⟩⟩
      · rw [Nat.min_eq_right (by omega)] at hy
        have i480 : ¬ (len : Int) ≤ 480 := by omega
        have icap : (480 : Int) ≤ (cap : Int) := by omega
        gi_wp2
        refine hR.mono ?_
        rintro e W3 (⟨rfl, hJ3, hk3⟩ | ⟨rfl, hJx3⟩)
        · gi_wp2
          go_roundw
          case rel => exact ⟨0 + 1, hlt, by go_num, ⟨_, by rw [List.range_succ, List.map_append, hpreH.out]; rfl, hJ3⟩, hk3.trans hbx⟩
          case measure => simp [intOf]; omega
        · gi_wp2
          refine bodyPost_ret (results_none rfl _ _ _) rfl ?_
          exact ⟨⟨_, rfl⟩, .inr ⟨_, ⟨0 + 1, hlt, by omega, by rw [List.range_succ, List.map_append, hpreH.out]; rfl⟩, hJx3⟩⟩
    · have hki : ((k : Int) == 0) = false := by rw [beq_eq_false_iff_ne]; omega
      by_cases hlt : k < many
      · have hkl : 480 * k < len := by have := hmanyH.out; omega
        have ikl : (k : Int) * 480 < (len : Int) := by omega
        obtain ⟨b, off, rfl⟩ := hsome (by omega)
        obtain ⟨fn, tmps, assign, body, hy, hR⟩ := hY _ ⟨k, hlt⟩ wr hJs (by rw [hplH.out]; exact hlt)
        dsimp only at hy
        have hpv : partV (.slice (some ⟨b, off, none⟩) len cap) k = .slice (some ⟨b, off + k * 480, none⟩) (min len ((k + 1) * 480) - k * 480) (cap - k * 480) := by simp [partV, hk0]
        rw [hpv] at hy
        clear hpv hY hk0 hsome
        have iw : (k : Int) ≤ 3000000 := by omega
        by_cases h480 : len ≤ (k + 1) * 480
        · rw [Nat.min_eq_left h480] at hy
          have i480 : (len : Int) ≤ ((k : Int) + 1) * 480 := by omega
          gi_wp2
          refine hR.mono ?_
          rintro e W3 (⟨rfl, hJ3, hk3⟩ | ⟨rfl, hJx3⟩)
          · gi_wp2
            go_roundw
            case rel => exact ⟨k + 1, hlt, by go_num, ⟨_, by rw [List.range_succ, List.map_append, hpreH.out]; rfl, hJ3⟩, hk3.trans hbx⟩
            case measure => simp [intOf]; omega
          · gi_wp2
            refine bodyPost_ret (results_none rfl _ _ _) rfl ?_
            exact ⟨⟨_, rfl⟩, .inr ⟨_, ⟨k + 1, hlt, by omega, by rw [List.range_succ, List.map_append, hpreH.out]; rfl⟩, hJx3⟩⟩
        · rw [Nat.min_eq_right (by omega)] at hy
          have i480 : ¬ (len : Int) ≤ ((k : Int) + 1) * 480 := by omega
          have icap : ((k : Int) + 1) * 480 ≤ (cap : Int) := by omega
          gi_wp2
          refine hR.mono ?_
          rintro e W3 (⟨rfl, hJ3, hk3⟩ | ⟨rfl, hJx3⟩)
          · gi_wp2
            go_roundw
            case rel => exact ⟨k + 1, hlt, by go_num, ⟨_, by rw [List.range_succ, List.map_append, hpreH.out]; rfl, hJ3⟩, hk3.trans hbx⟩
            case measure => simp [intOf]; omega
          · gi_wp2
            refine bodyPost_ret (results_none rfl _ _ _) rfl ?_
            exact ⟨⟨_, rfl⟩, .inr ⟨_, ⟨k + 1, hlt, by omega, by rw [List.range_succ, List.map_append, hpreH.out]; rfl⟩, hJx3⟩⟩
      · have hkl : ¬ 480 * k < len := by have := hmanyH.out; omega
        have ikl : ¬ (k : Int) * 480 < (len : Int) := by omega
        obtain rfl : many = k := by omega
        have iw : (many : Int) ≤ 3000000 := by have := hmanyH.out; omega
        gi_wp2
        go_end0
        exact ⟨⟨_, rfl⟩, .inl ⟨_, hpreH.out, hJs⟩⟩

theorem cut_stops (n : Nat) (hn : 1 ≤ n) (bx : Nat) (a : Option Addr) (len cap : Nat) (hsome : 480 < len → ∃ b off, a = some ⟨b, off, none⟩) (hcap : len ≤ cap) (hlen : cap ≤ 9223372036854775807) (hlen2 : len ≤ 1000000000) (many : Nat) (hmany : many = max 1 ((len + 479) / 480))
    (w : World) (hbx : w.heap[bx]? = some (.cells #[.slice a len cap] 28 (0, 0))) :
    SeqStopsK Fence.wide n Try.prog 116 #[.pointer (some ⟨bx, 0, none⟩)] (fun x : Fin many => #[Value.int .i64 (x.val : Int), partV (.slice a len cap) x.val]) (fun W W' => W'.heap[bx]? = W.heap[bx]?) (fun ys => ys.map (·.val) = List.range many) (fun pre => ∃ k, k ≤ many ∧ 1 ≤ k ∧ pre.map (·.val) = List.range k) many w := fun l J Jx W hW _ _ hY h0 => by
  have hbl := lt_of_block hbx
  exact cut1_in n hn l bx a len cap hsome hcap hlen hlen2 many hmany J Jx hY W ((hW.block bx hbl).trans hbx) h0
/-! ### The leaves that are put -/
def putL (l : LogM) (of' : Nat) (b : List UInt8) : List Nat → DiskM → DiskM × Int
  | [], d => (d, 0)
  | x :: r, d =>
    if (d.write ((l.first + l.end' + x : Nat) : Int) (LeafM.page ⟨l.stamp, x, of', LogM.part b x⟩)).2 ≠ 0 then d.write ((l.first + l.end' + x : Nat) : Int) (LeafM.page ⟨l.stamp, x, of', LogM.part b x⟩)
    else putL l of' b r (d.write ((l.first + l.end' + x : Nat) : Int) (LeafM.page ⟨l.stamp, x, of', LogM.part b x⟩)).1
theorem put_eq (l : LogM) (of' : Nat) (b : List UInt8) : ∀ (k i : Nat) (d : DiskM), LogM.put l of' b k i d = putL l of' b (List.range' i k) d
  | 0, _, _ => rfl
  | k + 1, i, d => by
    rw [List.range'_succ]
    unfold LogM.put putL
    dsimp only
    rw [put_eq l of' b k (i + 1)]
theorem putL_snoc (l : LogM) (of' : Nat) (b : List UInt8) (x : Nat) : ∀ (xs : List Nat) (d : DiskM), putL l of' b (xs ++ [x]) d =
    if (putL l of' b xs d).2 ≠ 0 then putL l of' b xs d else (putL l of' b xs d).1.write ((l.first + l.end' + x : Nat) : Int) (LeafM.page ⟨l.stamp, x, of', LogM.part b x⟩)
  | [], d => by
    have h0 : ∀ d : DiskM, putL l of' b [] d = (d, 0) := fun _ => rfl
    rw [List.nil_append, h0]
    unfold putL
    simp only [h0, ne_eq, not_true_eq_false, if_false]
    split
    · rfl
    · rename_i h
      simp only [Decidable.not_not] at h
      rw [← h]
  | y :: xs, d => by
    rw [List.cons_append]
    unfold putL
    by_cases h : (d.write ((l.first + l.end' + y : Nat) : Int) (LeafM.page ⟨l.stamp, y, of', LogM.part b y⟩)).2 ≠ 0
    · rw [if_pos h, if_pos h, if_pos h]
    · rw [if_neg h, if_neg h, putL_snoc l of' b x xs]
/-- Behind an error nothing more is put. -/
theorem putL_err (l : LogM) (of' : Nat) (b : List UInt8) : ∀ (xs ys : List Nat) (d : DiskM), (putL l of' b xs d).2 ≠ 0 → putL l of' b (xs ++ ys) d = putL l of' b xs d
  | [], _, _, h => by simp [putL] at h
  | x :: xs, ys, d, h => by
    rw [List.cons_append]
    unfold putL at h ⊢
    by_cases hx : (d.write ((l.first + l.end' + x : Nat) : Int) (LeafM.page ⟨l.stamp, x, of', LogM.part b x⟩)).2 ≠ 0
    · rw [if_pos hx, if_pos hx]
    · rw [if_neg hx] at h ⊢
      rw [if_neg hx]
      exact putL_err l of' b xs ys _ h
theorem putL_row (l : LogM) (of' : Nat) (b : List UInt8) : ∀ (xs : List Nat) (d : DiskM), (putL l of' b xs d).1.row.length ≤ d.row.length + xs.length
  | [], _ => Nat.le_refl _
  | x :: r, d => by
    unfold putL
    have h := DiskM.write_row d ((l.first + l.end' + x : Nat) : Int) (LeafM.page ⟨l.stamp, x, of', LogM.part b x⟩)
    split
    · simp only [List.length_cons]; omega
    · have := putL_row l of' b r (d.write ((l.first + l.end' + x : Nat) : Int) (LeafM.page ⟨l.stamp, x, of', LogM.part b x⟩)).1
      simp only [List.length_cons]; omega

/-! ### What lies in memory abides a turn of a block that is no cells -/
/-- The ghost map, new blocks plain. -/
def ext (W : World) (o : Own) : Own := fun k => if k < W.heap.size then o k else (0, 0)
def Others (W : World) (row : Option Nat) : Prop := ∀ r, row = some r → ∃ o : Obj, W.heap[r]? = some o ∧ o.isCells = false
section
variable {W W' : World} {row : Option Nat} {o : Own}
theorem Others.same (h : Others W row) (hg : W.grownBy W' row) {k : Nat} {cs : Array Value} {t : TypeId} {fr : Nat × Nat} (hk : W.heap[k]? = some (.cells cs t fr)) : W'.heap[k]? = some (.cells cs t fr) := by
  rw [hg.block k (lt_of_block hk)]
  · exact hk
  · intro e
    obtain ⟨ob, h1, h2⟩ := h k e.symm
    rw [hk] at h1
    simp only [Option.some.injEq] at h1
    subst h1; cases h2
theorem Others.cell (h : Others W row) (hg : W.grownBy W' row) {a : Addr} {v : Value} (hc : W.cell? a = some v) : W'.cell? a = some v := by
  cases hk : W.heap[a.block]? with
  | none => simp [World.cell?, hk] at hc
  | some ob =>
    cases ob with
    | cells cs t fr => rw [World.cell?_of_block (w := W) (a := a) (by rw [h.same hg hk, hk])]; exact hc
    | _ => simp [World.cell?, hk] at hc
theorem Bytes.kept {v : Value} {l : List UInt8} (hb : Bytes W o v l) (h : Others W row) (hg : W.grownBy W' row) : Bytes W' (ext W o) v l := by
  rcases hb with hb | ⟨b, off, cap, hv, h1, h2, h3, h4, h5⟩
  · exact .inl hb
  · exact .inr ⟨b, off, cap, hv, h1, h2, by unfold ext; rw [if_pos h4]; exact h3, Nat.lt_of_lt_of_le h4 hg.size, fun j v hj => h.cell hg (h5 j v hj)⟩
theorem ownsRow_kept {e : TypeId} {size n : Nat} {v : Value} {xs : List Value} (hr : W.ownsRow 0 e size v n xs) (h : Others W row) (hg : W.grownBy W' row) : W'.ownsRow 0 e size v n xs := by
  refine ⟨hr.1, ?_⟩
  rcases hr.2 with hn | ⟨g, cap, cur, rfl, hb, hgg, rest⟩
  · exact .inl hn
  · exact .inr ⟨g, cap, cur, rfl, hb, h.same hg hgg, rest⟩
theorem LogAt.kept {L p pd : Nat} {m : LogM} (hl : LogAt W o L p pd m) (h : Others W row) (hg : W.grownBy W' row) : LogAt W' (ext W o) L p pd m := by
  obtain ⟨rv, vs, hp, hr, hv, op, orr, hwf⟩ := hl
  refine ⟨rv, vs, h.same hg hp, ownsRow_kept hr h hg, ⟨⟨hv.1.1, fun i v l h1 h2 => (hv.1.2 i v l h1 h2).kept h hg⟩, fun v hx b off n c e hn => ?_⟩, ?_, fun k hk => ?_, hwf⟩
  · obtain ⟨h1, h2⟩ := hv.2 v hx b off n c e hn
    exact ⟨Nat.lt_of_lt_of_le h1 hg.size, by unfold ext; rw [if_pos h1]; exact h2⟩
  · unfold ext; rw [if_pos (lt_of_block hp)]; exact op
  · unfold ext; rw [if_pos (hr.lt k hk).2]; exact orr k hk
theorem DiskAt.kept {D p : Nat} {d : DiskM} (hd : DiskAt W o D p d) (h : Others W row) (hg : W.grownBy W' row) : DiskAt W' (ext W o) D p d := by
  obtain ⟨bl, rv, hp, hl, hr, op, ol, orr, hwf⟩ := hd
  refine ⟨bl, rv, h.same hg hp, h.same hg hl, ownsRow_kept hr h hg, ?_, ?_, fun k hk => ?_, hwf⟩
  · unfold ext; rw [if_pos (lt_of_block hp)]; exact op
  · unfold ext; rw [if_pos (lt_of_block hl)]; exact ol
  · unfold ext; rw [if_pos (hr.lt k hk).2]; exact orr k hk
theorem Step.kept {T : Nat → Prop} {w0 : World} {o0 : Own} (hs : Step T w0 o0 W o) (hg : W.grownBy W' row) (hr : ∀ r, row = some r → w0.heap.size ≤ r) : Step T w0 o0 W' (ext W o) := by
  refine ⟨hg.os.trans hs.os, hg.tape.trans hs.tape, hg.output.trans hs.output, Nat.le_trans hs.size hg.size, fun k hk => ?_, fun k hk ht => ?_⟩
  · unfold ext; rw [if_pos (Nat.lt_of_lt_of_le hk hs.size)]; exact hs.own k hk
  · rw [hg.block k (Nat.lt_of_lt_of_le hk hs.size) (fun e => by have := hr k e.symm; omega)]; exact hs.block k hk ht
end
/-- Blocks from B on that are no cells are nobody's. -/
def Plain (B : Nat) (T : Nat → Prop) (W : World) (o : Own) : Prop := ∀ k ob, B ≤ k → W.heap[k]? = some ob → ob.isCells = false → ¬ T (o k).1
theorem Plain.keeps {B : Nat} {T : Nat → Prop} {W W' : World} {o o' : Own} (h : Plain B T W o) (hs : Step T W o W' o') : KeepsFrom B W W' :=
  ⟨hs.size, fun k ob hk hb hc => by rw [hs.block k (Array.getElem?_eq_some_iff.1 hb).1 (h k ob hk hb hc)]; exact hb⟩

/-- The ghost map, where blocks from B on that are no cells are plain. -/
def plainify (B : Nat) (W : World) (o : Own) : Own := fun k => if B ≤ k then (match W.heap[k]? with | some (.cells _ _ _) => o k | _ => (0, 0)) else o k
section
variable {W : World} {o : Own} {B : Nat}
theorem plainify_cells {k : Nat} {cs : Array Value} {t : TypeId} {fr : Nat × Nat} (h : W.heap[k]? = some (.cells cs t fr)) : plainify B W o k = o k := by
  unfold plainify; rw [h]; simp
theorem plainify_zero {k : Nat} (h : (o k).1 = 0) : (plainify B W o k).1 = 0 := by
  unfold plainify
  split
  · split
    · exact h
    · rfl
  · exact h
theorem plainify_plain (T : Nat → Prop) (h0 : ¬ T 0) : Plain B T W (plainify B W o) := by
  intro k ob hk hb hc
  unfold plainify
  rw [if_pos hk, hb]
  cases ob <;> first | exact h0 | (simp [Obj.isCells] at hc)
theorem Bytes.plainify {v : Value} {l : List UInt8} (hb : Bytes W o v l) : Bytes W (plainify B W o) v l := by
  rcases hb with hb | ⟨b, off, cap, hv, h1, h2, h3, h4, h5⟩
  · exact .inl hb
  · exact .inr ⟨b, off, cap, hv, h1, h2, plainify_zero h3, h4, h5⟩
theorem ownsRow_tag {e : TypeId} {size n : Nat} {v : Value} {xs : List Value} (hr : W.ownsRow 0 e size v n xs) {k : Nat} (hk : v.ownBlock = some k) : plainify B W o k = o k := by
  rcases hr.2 with ⟨rfl, _⟩ | ⟨g, cap, cur, rfl, hb, hgg, rest⟩
  · simp [Value.ownBlock] at hk
  · simp only [Value.ownBlock, Option.some.injEq] at hk
    subst hk; exact plainify_cells hgg
theorem LogAt.plainify {L p pd : Nat} {m : LogM} (hl : LogAt W o L p pd m) : LogAt W (plainify B W o) L p pd m := by
  obtain ⟨rv, vs, hp, hr, hv, op, orr, hwf⟩ := hl
  refine ⟨rv, vs, hp, hr, ⟨⟨hv.1.1, fun i v l h1 h2 => (hv.1.2 i v l h1 h2).plainify⟩, fun v hx b off n c e hn => ?_⟩, by rw [plainify_cells hp]; exact op, fun k hk => by rw [ownsRow_tag hr hk]; exact orr k hk, hwf⟩
  obtain ⟨h1, h2⟩ := hv.2 v hx b off n c e hn
  obtain ⟨i, hi⟩ := List.mem_iff_getElem?.1 hx
  have hil := (List.getElem?_eq_some_iff.1 hi).1
  rcases hv.1.2 i v _ hi (List.getElem?_eq_getElem (by rw [← hv.1.1]; exact hil)) with ⟨⟨_, _, e2⟩, _⟩ | ⟨b', off', cap', e2, _, _, _, _, h5⟩
  · rw [e] at e2; simp only [Value.slice.injEq] at e2; omega
  · rw [e] at e2
    simp only [Value.slice.injEq, Option.some.injEq, Addr.mk.injEq] at e2
    obtain ⟨⟨rfl, rfl, -⟩, hn2, rfl⟩ := e2
    have h50 := h5 0 _ (List.getElem?_eq_getElem (by rw [length_bvs]; omega))
    refine ⟨h1, ?_⟩
    cases hb : W.heap[b]? with
    | none => simp [World.cell?, hb] at h50
    | some ob =>
      cases ob with
      | cells cs t fr => rw [plainify_cells hb]; exact h2
      | _ => simp [World.cell?, hb] at h50
theorem DiskAt.plainify {D p : Nat} {d : DiskM} (hd : DiskAt W o D p d) : DiskAt W (plainify B W o) D p d := by
  obtain ⟨bl, rv, hp, hl, hr, op, ol, orr, hwf⟩ := hd
  exact ⟨bl, rv, hp, hl, hr, by rw [plainify_cells hp]; exact op, by rw [plainify_cells hl]; exact ol, fun k hk => by rw [ownsRow_tag hr hk]; exact orr k hk, hwf⟩
theorem Step.plainify {T : Nat → Prop} {w0 : World} {o0 : Own} (hs : Step T w0 o0 W o) (hB : w0.heap.size ≤ B) : Step T w0 o0 W (plainify B W o) :=
  ⟨hs.os, hs.tape, hs.output, hs.size, fun k hk => by unfold YtfgggkheadfiaaaR.plainify; rw [if_neg (by omega)]; exact hs.own k hk, hs.block⟩
end
end Go.Proofs.YtfgggkheadfiaaaR
