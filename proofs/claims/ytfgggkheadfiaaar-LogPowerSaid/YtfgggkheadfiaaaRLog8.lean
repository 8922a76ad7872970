/- How a log lies in memory; contracts: Room, alive. -/
import Derived.Test.YtfgggkheadfiaaaRLog7
import Derived.Test.YtfgggkheadfiaaaRDisk5
namespace Go.Proofs.YtfgggkheadfiaaaR
open Go Go.RowKit
attribute [local go_sem ↓] Go.wp_at_zero Go.wp_at_succ

def LogM.wf (m : LogM) : Prop := m.first ≤ 4096 ∧ 2 ≤ m.n ∧ m.n ≤ 2000 ∧ 1 ≤ m.end' ∧ m.end' ≤ m.n ∧ m.records.length + 1 ≤ m.end' ∧ ∀ r ∈ m.records, r.length ≤ 960000
def LogM.cells (m : LogM) (pd : Nat) (rv : Value) : List Value :=
  [.pointer (some ⟨pd, 0, none⟩), .int .i64 (m.first : Int), .int .i64 (m.n : Int), .int .u64 (m.stamp.toNat : Int), .bool m.headed, .int .i64 (m.end' : Int), rv, .bool m.dead]
/-- A record's bytes lie in a block of their own kind: its second number is 1. -/
def Mine (w : World) (o : Own) (v : Value) : Prop := ∀ b off n c, v = .slice (some ⟨b, off, none⟩) n c → 0 < n → b < w.heap.size ∧ (o b).2 = 1
theorem Mine.step {T : Nat → Prop} {w w' : World} {o o' : Own} {v : Value} (h : Mine w o v) (s : Step T w o w' o') : Mine w' o' v := fun b off n c e hn => by
  obtain ⟨h1, h2⟩ := h b off n c e hn
  exact ⟨Nat.lt_of_lt_of_le h1 s.size, by rw [s.own b h1]; exact h2⟩
def RowsT (w : World) (o : Own) (vs : List Value) (ls : List (List UInt8)) : Prop := RowsB w o vs ls ∧ ∀ v ∈ vs, Mine w o v
theorem RowsT.step {T : Nat → Prop} {w w' : World} {o o' : Own} {vs : List Value} {ls : List (List UInt8)} (h : RowsT w o vs ls) (s : Step T w o w' o') (hT : ¬ T 0) : RowsT w' o' vs ls :=
  ⟨h.1.step s hT, fun v hv => (h.2 v hv).step s⟩
theorem RowsT.nil (w : World) (o : Own) : RowsT w o [] [] := ⟨RowsB.nil w o, by simp⟩
/-- The log m lies at block p, over the disk at block pd; its blocks are the object L's. -/
def LogAt (w : World) (o : Own) (L p pd : Nat) (m : LogM) : Prop :=
  ∃ rv vs, w.heap[p]? = some (.cells (m.cells pd rv).toArray 135 (0, 0)) ∧ w.ownsRow 0 28 1 rv m.records.length vs ∧ RowsT w o vs m.records ∧ o p = (L, 0) ∧ (∀ k, rv.ownBlock = some k → o k = (L, 1)) ∧ m.wf
def In (L D : Nat) : Nat → Prop := fun k => k = L ∨ k = D
theorem LogAt.step {T : Nat → Prop} {w w' : World} {o o' : Own} {L p pd : Nat} {m : LogM} (h : LogAt w o L p pd m) (s : Step T w o w' o') (hT : ¬ T L) (h0 : ¬ T 0) : LogAt w' o' L p pd m := by
  obtain ⟨rv, vs, hp, hr, hv, op, orr, hwf⟩ := h
  have hpl := lt_of_block hp
  refine ⟨rv, vs, ?_, ?_, hv.step s h0, ?_, ?_, hwf⟩
  · rw [s.block p hpl (by rw [op]; exact hT)]; exact hp
  · exact ownsRow_same hr fun k hk => s.block k (hr.lt k hk).2 (by rw [orr k hk]; exact hT)
  · rw [s.own p hpl]; exact op
  · intro k hk; rw [s.own k (hr.lt k hk).2]; exact orr k hk
theorem LogAt.wf {w : World} {o : Own} {L p pd : Nat} {m : LogM} (h : LogAt w o L p pd m) : m.wf := by
  obtain ⟨rv, vs, hp, hr, hv, op, orr, hwf⟩ := h; exact hwf
theorem LogAt.lt {w : World} {o : Own} {L p pd : Nat} {m : LogM} (h : LogAt w o L p pd m) : p < w.heap.size := by
  obtain ⟨rv, vs, hp, hr, hv, op, orr, hwf⟩ := h; exact lt_of_block hp
theorem LogAt.ofL {w : World} {o : Own} {L p pd : Nat} {m : LogM} (h : LogAt w o L p pd m) : (o p).1 = L := by
  obtain ⟨rv, vs, hp, hr, hv, op, orr, hwf⟩ := h; rw [op]
/-- A field of the log's own struct is written. -/
theorem LogAt.set {w : World} {o : Own} {L p pd : Nat} {m m' : LogM} (h : LogAt w o L p pd m) (hL : L ≠ 0) (i : Nat) (v : Value) (hc : ∀ rv, (m.cells pd rv).set i v = m'.cells pd rv) (hr : m'.records = m.records) (hwf : m'.wf) :
    LogAt (w.setCell ⟨p, i, none⟩ v) o L p pd m' := by
  obtain ⟨rv, vs, hp, hro, hv, op, orr, _⟩ := h
  have hs := (Step.refl (Only L) w o).setCell (a := ⟨p, i, none⟩) v (.inl (by show Only L (o p).1; rw [op]; rfl))
  refine ⟨rv, vs, by rw [heap_setCell_at v hp, hc], ?_, by rw [hr]; exact hv.step hs (fun h => hL h.symm), op, orr, hwf⟩
  rw [hr]
  refine ownsRow_same hro fun k hk => Below.heap_setCell _ _ _ _ ?_
  rintro rfl; have := orr _ hk; rw [op] at this; simp at this
theorem LogAt.setStep {w : World} {o : Own} {L p pd : Nat} {m : LogM} (h : LogAt w o L p pd m) (i : Nat) (v : Value) : Step (Only L) w o (w.setCell ⟨p, i, none⟩ v) o :=
  (Step.refl _ w o).setCell v (.inl h.ofL)
theorem LogAt.open {w : World} {o : Own} {L p pd : Nat} {m : LogM} (h : LogAt w o L p pd m) : ∃ rv vs,
    (w.cell? ⟨p, 0, none⟩ = some (.pointer (some ⟨pd, 0, none⟩)) ∧ w.cell? ⟨p, 1, none⟩ = some (.int .i64 (m.first : Int)) ∧ w.cell? ⟨p, 2, none⟩ = some (.int .i64 (m.n : Int)) ∧ w.cell? ⟨p, 3, none⟩ = some (.int .u64 (m.stamp.toNat : Int)) ∧
     w.cell? ⟨p, 4, none⟩ = some (.bool m.headed) ∧ w.cell? ⟨p, 5, none⟩ = some (.int .i64 (m.end' : Int)) ∧ w.cell? ⟨p, 6, none⟩ = some rv ∧ w.cell? ⟨p, 7, none⟩ = some (.bool m.dead)) ∧
    (∀ i, w.frozen? ⟨p, i, none⟩ = false) ∧ w.ownsRow 0 28 1 rv m.records.length vs ∧ RowsB w o vs m.records ∧ o p = (L, 0) ∧ (∀ k, rv.ownBlock = some k → o k = (L, 1)) := by
  obtain ⟨rv, vs, hp, hr, hv, op, orr, hwf⟩ := h
  exact ⟨rv, vs, ⟨cell_of_block hp 0, cell_of_block hp 1, cell_of_block hp 2, cell_of_block hp 3, cell_of_block hp 4, cell_of_block hp 5, cell_of_block hp 6, cell_of_block hp 7⟩, fun i => free_of_block hp i, hr, hv.1, op, orr⟩

set_option maxRecDepth 100000 in
set_option maxHeartbeats 800000 in
theorem room_any {w : World} {o : Own} {L p pd : Nat} {m : LogM} (h : LogAt w o L p pd m) : Calls Try.prog 48 #[.pointer (some ⟨p, 0, none⟩)] w (Ret Nobody w o fun v _ _ => v = .int .i64 (m.room : Int)) := by
  obtain ⟨h1, h2, h3, h4, h5, _⟩ := h.wf
  obtain ⟨rv, vs, ⟨c0, c1, c2, c3, c4, c5, c6, c7⟩, -⟩ := h.open
  have hE : ((m.room : Nat) : Int) = 480 * ((m.n : Int) - (m.end' : Int)) := by unfold LogM.room; omega
  rw [hE]
  have b1 : (m.n : Int) ≤ 2000 := by omega
  have b2 : (m.end' : Int) ≤ (m.n : Int) := by omega
  clear hE h1 h2 h3 h4 h5 c0 c1 c3 c4 c6 c7
  have hst := (Step.refl Nobody w o).drew
  go_enter Try.func48, Try.ntmps48
  go_wp2_with fail
  refine wp_region_need (fun w' => w'.cell? ⟨p, 2, none⟩ = some (.int .i64 (m.n : Int)) ∧ w'.cell? ⟨p, 5, none⟩ = some (.int .i64 (m.end' : Int))) (fun _ => true) (by kernel_rfl) ⟨c2, c5⟩ (fun hHeld => ?_)
  refine wpAnyN_take (i := 0) (v := ?_) rfl (by kernel_rfl) (by kernel_rfl) (by kernel_rfl) (by kernel_rfl) (fun _ _ _ h => h) (Or.inl ⟨by rfl, ?_⟩) (by assumption) ?_
  rotate_left
  · intro w hSw; ((try dsimp only at hSw); go_simp; (try with_reducible rfl))
  simp only [Act.put, List.setIfInBounds_toArray, List.set_cons_zero, List.set_cons_succ]
  refine wpAnyN_take (i := 1) (v := ?_) rfl (by kernel_rfl) (by kernel_rfl) (by kernel_rfl) (by kernel_rfl) (fun _ _ _ h => h) (Or.inl ⟨by rfl, ?_⟩) (by assumption) ?_
  rotate_left
  · intro w hSw; ((try dsimp only at hSw); go_simp; (try with_reducible rfl))
  simp only [Act.put, List.setIfInBounds_toArray, List.set_cons_zero, List.set_cons_succ]
  refine wpAnyN_take (i := 2) (v := ?_) rfl (by kernel_rfl) (by kernel_rfl) (by kernel_rfl) (by kernel_rfl) (fun _ _ _ h => h) (Or.inl ⟨by rfl, ?_⟩) (by assumption) ?_
  rotate_left
  · intro w hSw; ((try dsimp only at hSw); go_simp; (try with_reducible rfl))
  simp only [Act.put, List.setIfInBounds_toArray, List.set_cons_zero, List.set_cons_succ]
  refine wpAnyN_take (i := 3) (v := ?_) rfl (by kernel_rfl) (by kernel_rfl) (by kernel_rfl) (by kernel_rfl) (fun _ _ _ h => h) (Or.inl ⟨by rfl, ?_⟩) (by assumption) ?_
  rotate_left
  · intro w hSw; ((try dsimp only at hSw); go_simp; (try with_reducible rfl))
  simp only [Act.put, List.setIfInBounds_toArray, List.set_cons_zero, List.set_cons_succ]
  refine wpAnyN_take (i := 4) (v := ?_) rfl (by kernel_rfl) (by kernel_rfl) (by kernel_rfl) (by kernel_rfl) (fun _ _ _ h => h) (Or.inl ⟨by rfl, ?_⟩) (by assumption) ?_
  rotate_left
  · intro w hSw; ((try dsimp only at hSw); go_simp; (try with_reducible rfl))
  simp only [Act.put, List.setIfInBounds_toArray, List.set_cons_zero, List.set_cons_succ]
  refine wpAnyN_take (i := 5) (v := ?_) rfl (by kernel_rfl) (by kernel_rfl) (by kernel_rfl) (by kernel_rfl) (fun _ _ _ h => h) (Or.inl ⟨by rfl, ?_⟩) (by assumption) ?_
  rotate_left
  · intro w hSw; ((try dsimp only at hSw); go_simp; (try with_reducible rfl))
  simp only [Act.put, List.setIfInBounds_toArray, List.set_cons_zero, List.set_cons_succ]
  refine wpAnyN_take (i := 6) (v := ?_) rfl (by kernel_rfl) (by kernel_rfl) (by kernel_rfl) (by kernel_rfl) (fun _ _ _ h => h) (Or.inl ⟨by rfl, ?_⟩) (by assumption) ?_
  rotate_left
  · intro w hSw; ((try dsimp only at hSw); go_simp; (try with_reducible rfl))
  simp only [Act.put, List.setIfInBounds_toArray, List.set_cons_zero, List.set_cons_succ]
  refine wpAnyN_take (i := 7) (v := ?_) rfl (by kernel_rfl) (by kernel_rfl) (by kernel_rfl) (by kernel_rfl) (fun _ _ _ h => h) (Or.inl ⟨by rfl, ?_⟩) (by assumption) ?_
  rotate_left
  · intro w hSw; ((try dsimp only at hSw); go_simp; (try with_reducible rfl))
  simp only [Act.put, List.setIfInBounds_toArray, List.set_cons_zero, List.set_cons_succ]
  refine wpAnyN_take (i := 8) (v := ?_) rfl (by kernel_rfl) (by kernel_rfl) (by kernel_rfl) (by kernel_rfl) (fun _ _ _ h => h) (Or.inl ⟨by rfl, ?_⟩) (by assumption) ?_
  rotate_left
  · intro w hSw; ((try dsimp only at hSw); go_simp; (try with_reducible rfl))
  simp only [Act.put, List.setIfInBounds_toArray, List.set_cons_zero, List.set_cons_succ]
  refine wpAnyN_take (i := 9) (v := ?_) rfl (by kernel_rfl) (by kernel_rfl) (by kernel_rfl) (by kernel_rfl) (fun _ _ _ h => h) (Or.inl ⟨by rfl, ?_⟩) (by assumption) ?_
  rotate_left
  · intro w hSw; ((try dsimp only at hSw); go_simp; (try with_reducible rfl))
  simp only [Act.put, List.setIfInBounds_toArray, List.set_cons_zero, List.set_cons_succ]
  refine wpAnyN_take (i := 10) (v := ?_) rfl (by kernel_rfl) (by kernel_rfl) (by kernel_rfl) (by kernel_rfl) (fun _ _ _ h => h) (Or.inl ⟨by rfl, ?_⟩) (by assumption) ?_
  rotate_left
  · intro w hSw; ((try dsimp only at hSw); go_simp; (try with_reducible rfl))
  simp only [Act.put, List.setIfInBounds_toArray, List.set_cons_zero, List.set_cons_succ]
  refine wpAnyN_done (by kernel_rfl) ?_ _
  go_wp2_with fail
  go_ret
  refine ⟨_, o, rfl, hst, ?_⟩
  show Value.int .i64 (IntKind.i64.wrap (480 * IntKind.i64.wrap ((m.n : Int) - (m.end' : Int)))) = _
  rw [wrap_i64 (n := (m.n : Int) - (m.end' : Int)) (by omega) (by omega), wrap_i64 (by omega) (by omega)]
theorem room_nil (w : World) : Calls Try.prog 48 #[.pointer none] w fun e w' => e = .returned (.int .i64 0) ∧ w = w' := by
  go_enter Try.func48, Try.ntmps48
  go_wp2
  go_ret
  exact ⟨rfl, rfl⟩

/-- Another's plain data is written. -/
theorem LogAt.setOther {w : World} {o : Own} {L p pd : Nat} {m : LogM} (h : LogAt w o L p pd m) (hL : L ≠ 0) {g i : Nat} (v : Value) (hg : o g = (0, 0)) : LogAt (w.setCell ⟨g, i, none⟩ v) o L p pd m := by
  obtain ⟨rv, vs, hp, hr, hv, op, orr, hwf⟩ := h
  refine ⟨rv, vs, ?_, ?_, ?_, op, orr, hwf⟩
  · rw [Below.heap_setCell _ _ _ _ (by rintro rfl; rw [op] at hg; simp only [Prod.mk.injEq] at hg; omega)]; exact hp
  · refine ownsRow_same hr fun k hk => Below.heap_setCell _ _ _ _ ?_
    rintro rfl; rw [orr _ hk] at hg; simp only [Prod.mk.injEq] at hg; omega
  · refine ⟨⟨hv.1.1, fun j x l hx hl => ?_⟩, fun x hx b off n c e hn => ?_⟩
    · rcases hv.1.2 j x l hx hl with h0 | ⟨b, off, cap, e, h1, h2, h3, h4, h5⟩
      · exact .inl h0
      · by_cases hz : l.length = 0
        · exact .inl ⟨⟨_, _, by rw [e, hz]⟩, hz, by rw [List.eq_nil_of_length_eq_zero hz]; rfl⟩
        · have hm := (hv.2 x (List.mem_of_getElem? hx) b off l.length cap e (by omega)).2
          refine .inr ⟨b, off, cap, e, h1, h2, h3, by simpa using h4, range_same h5 (Below.heap_setCell _ _ _ _ ?_)⟩
          rintro rfl; rw [hg] at hm; cases hm
    · obtain ⟨h1, h2⟩ := hv.2 x hx b off n c e hn
      exact ⟨by simpa using h1, h2⟩

/-- A log and its disk. -/
def LD (w : World) (o : Own) (L D p pd : Nat) (s : LogM × DiskM) : Prop := LogAt w o L p pd s.1 ∧ DiskAt w o D pd s.2
theorem LD.step {T : Nat → Prop} {w w' : World} {o o' : Own} {L D p pd : Nat} {s : LogM × DiskM} (h : LD w o L D p pd s) (st : Step T w o w' o') (hL : ¬ T L) (hD : ¬ T D) (h0 : ¬ T 0) : LD w' o' L D p pd s :=
  ⟨h.1.step st hL h0, h.2.step st hD⟩
theorem Step.inL {L D : Nat} {w w' : World} {o o' : Own} (h : Step (Only L) w o w' o') : Step (In L D) w o w' o' := h.mono fun _ x => .inl x
theorem Step.inD {L D : Nat} {w w' : World} {o o' : Own} (h : Step (Only D) w o w' o') : Step (In L D) w o w' o' := h.mono fun _ x => .inr x
theorem Step.in0 {L D : Nat} {w w' : World} {o o' : Own} (h : Step Nobody w o w' o') : Step (In L D) w o w' o' := h.mono fun _ x => x.elim

/-- What a row of steps comes to: the states st, the errors er. -/
def LogM.goes (st : Nat → LogM × DiskM) (er : Nat → Int) : Nat → Nat → (LogM × DiskM) × Int
  | i, 0 => (st i, 0)
  | i, n + 1 => if er i ≠ 0 then (({ (st (i + 1)).1 with dead := (st (i + 1)).1.dead || er i == 9 }, (st (i + 1)).2), er i) else LogM.goes st er (i + 1) n
theorem alive_dead {w : World} {o : Own} {L D p pd : Nat} {s : LogM × DiskM} (h : LD w o L D p pd s) (hd : (s.1.dead || s.2.dead) = true) (sa : Option Addr) (sn sc : Nat) :
    Calls Try.prog 81 #[.pointer (some ⟨p, 0, none⟩), .slice sa sn sc] w (Ret Nobody w o fun v _w' _o' => v = .int .i64 9) := by
  obtain ⟨rv, vs, ⟨c0, -, -, -, -, -, -, c7⟩, -⟩ := h.1.open
  have hdd := dead_any h.2
  cases h7 : s.1.dead with
  | true =>
    rw [h7] at c7
    go_enter Try.func81, Try.ntmps81
    go_wp2_with fail
    go_ret
    exact ⟨_, o, rfl, Step.refl _ _ _, rfl⟩
  | false =>
    rw [h7] at c7 hd
    simp only [Bool.false_or] at hd
    rw [hd] at hdd
    clear hd h7
    go_enter Try.func81, Try.ntmps81
    go_wp2_with fail
    refine hdd.mono ?_; rintro e w' ⟨rfl, rfl⟩
    go_wp2_with fail
    go_ret
    exact ⟨_, o, rfl, Step.refl _ _ _, rfl⟩
theorem alive_nil (w : World) (sa : Option Addr) (sn sc : Nat) : Calls Try.prog 81 #[.pointer none, .slice sa sn sc] w fun e w' => e = .returned (.int .i64 8) ∧ w = w' := by
  go_enter Try.func81, Try.ntmps81
  go_wp2
  go_ret
  exact ⟨rfl, rfl⟩

theorem LD.killed {w : World} {o : Own} {L D p pd : Nat} {s : LogM × DiskM} (h : LD w o L D p pd s) (hL : L ≠ 0) (hLD : L ≠ D) (b : Bool) :
    LD (w.setCell ⟨p, 7, none⟩ (.bool b)) o L D p pd ({ s.1 with dead := b }, s.2) ∧ Step (In L D) w o (w.setCell ⟨p, 7, none⟩ (.bool b)) o := by
  have hs := h.1.setStep 7 (.bool b)
  exact ⟨⟨h.1.set hL 7 (.bool b) (fun rv => rfl) rfl h.1.wf, h.2.step hs (fun e => hLD e.symm)⟩, hs.inL⟩
set_option maxRecDepth 100000 in
set_option maxHeartbeats 3200000 in
theorem alive_any {w : World} {o : Own} {L D p pd : Nat} (hL : L ≠ 0) (hD : D ≠ 0) (hLD : L ≠ D) (st : Nat → LogM × DiskM) (er : Nat → Int) (h : LD w o L D p pd (st 0)) (hd : ((st 0).1.dead || (st 0).2.dead) = false)
    (n : Nat) (hn : n ≤ 1000) (fsl : List Value) (hfl : fsl.length = n) (fid : Nat → Nat) (bd cp : Nat → Array Value) (hfs : ∀ i, i < n → fsl[i]? = some (.func (.func (fid i)) (bd i) (cp i)))
    (hcall : ∀ i (args : Array Value) (x : World), i < n → (callFunc (fid i) args).run Try.prog x = .ok (.enter (fid i) args) x)
    (sa : Option Addr) (sc : Nat) (hsv : Slc w o (.slice sa n sc) n fsl)
    (hstep : ∀ i, i < n → (∀ j, j < i → er j = 0) → ∀ w1 o1, Step (In L D) w o w1 o1 → LD w1 o1 L D p pd (st i) →
      Calls Try.prog (fid i) (bd i ++ cp i) w1 (Ret (In L D) w1 o1 fun v w' o' => v = .int .i64 (er i) ∧ LD w' o' L D p pd (st (i + 1)))) :
    Calls Try.prog 81 #[.pointer (some ⟨p, 0, none⟩), .slice sa n sc] w (Ret (In L D) w o fun v w' o' => v = .int .i64 (LogM.goes st er 0 n).2 ∧ LD w' o' L D p pd (LogM.goes st er 0 n).1) := by
  have hN : ¬ In L D 0 := fun h => by rcases h with h | h <;> omega
  obtain ⟨rv, vs, ⟨c0, -, -, -, -, -, -, c7⟩, -⟩ := h.1.open
  have hdd := dead_any h.2
  simp only [Bool.or_eq_false_iff] at hd
  rw [hd.1] at c7
  rw [hd.2] at hdd
  clear hd
  have hgo : ∀ k, k ≤ n → (∀ j, j < k → er j = 0) → LogM.goes st er 0 n = LogM.goes st er k (n - k) := by
    intro k
    induction k with
    | zero => intro _ _; rfl
    | succ k ih =>
      intro hk hj
      rw [ih (by omega) (fun j hj' => hj j (by omega))]
      obtain ⟨m, hm⟩ : ∃ m, n - k = m + 1 := ⟨n - k - 1, by omega⟩
      rw [hm, show n - (k + 1) = m from by omega]
      conv => lhs; unfold LogM.goes
      rw [if_neg (by have := hj k (by omega); omega)]
  have hgoH := hidden hgo
  have hfsH := hidden hfs
  have hcallH := hidden hcall
  have hstepH := hidden hstep
  clear hgo hfs hcall hstep hfl
  go_enter Try.func81, Try.ntmps81
  go_wp2_with fail
  refine hdd.mono ?_; rintro e w' ⟨rfl, rfl⟩
  clear hdd
  go_wp2_with fail
  go_loopw [23] (fun i wr => ∃ k : Nat, k ≤ n ∧ i = .int .i64 k ∧ Hid (∀ j, j < k → er j = 0) ∧ ∃ o', Step (In L D) w o wr o' ∧ LD wr o' L D p pd (st k)) (fun i _ => n - (intOf i).toNat)
  case atStart => exact ⟨0, Nat.zero_le _, rfl, hidden (fun j hj => by omega), o, Step.refl _ _ _, h⟩
  case round =>
    clear c0 c7
    obtain ⟨k, hk, rfl, hj, o', hst, hld⟩ := hrel
    by_cases hlt : k < n
    · obtain ⟨b, off, rfl, hc, hbl, hbo⟩ := hsv.cell k (hfsH.out k hlt)
      have hcr : wr.cell? ⟨b, off + k, none⟩ = some (.func (.func (fid k)) (bd k) (cp k)) := by
        rw [World.cell?_of_block (a := ⟨b, off + k, none⟩) (hst.block b hbl (by rw [hbo]; exact hN))]; exact hc
      have hck := fun args x => hcallH.out k args x hlt
      have hs1 := hstepH.out k hlt hj.out wr o' hst hld
      go_wp2_with fail
      refine hs1.mono ?_; rintro e w1 ⟨v1, o1, rfl, hst1, rfl, hld1⟩
      have hst2 := hst.trans hst1
      by_cases he : er k = 0
      · have hjn : Hid (∀ j, j < k + 1 → er j = 0) := hidden fun j hj' => by
          by_cases hjk : j = k
          · subst hjk; exact he
          · exact hj.out j (by omega)
        rw [he]
        clear he hs1 hst hst1 hld
        go_wp2_with fail
        go_roundw
        case rel => exact ⟨k + 1, hlt, by go_num, hjn, o1, hst2, hld1⟩
        case measure => simp [intOf]; omega
      · have hne : (er k != 0) = true := by simpa using he
        have hE : LogM.goes st er 0 n = (({ (st (k + 1)).1 with dead := (st (k + 1)).1.dead || er k == 9 }, (st (k + 1)).2), er k) := by
          rw [hgoH.out k hk hj.out]
          obtain ⟨m, hm⟩ : ∃ m, n - k = m + 1 := ⟨n - k - 1, by omega⟩
          rw [hm]; unfold LogM.goes; rw [if_pos he]
        have hEH := hidden hE
        obtain ⟨rv1, vs1, ⟨-, -, -, -, -, -, -, d7⟩, hf1, -⟩ := hld1.1.open
        have d7f := hf1 7
        have hk1 := hld1.killed hL hLD
        generalize hek : er k = e1 at *
        generalize hsk : st (k + 1) = s1 at *
        clear hsk hek he hE hs1 hld hst hst1 hf1 hlt
        have fin : ∀ (w' : World) (o' : Own) (b : Bool), Hid (b = (s1.1.dead || e1 == 9)) → Hid (Step (In L D) w o w' o' ∧ LD w' o' L D p pd ({ s1.1 with dead := b }, s1.2)) →
            Ret (In L D) w o (fun v w' o' => v = .int .i64 (LogM.goes st er 0 n).2 ∧ LD w' o' L D p pd (LogM.goes st er 0 n).1) (.returned (.int .i64 e1)) w' := fun w' o' b hb hh => by
          rw [hEH.out]
          have h2 := hh.out
          rw [hb.out] at h2
          exact ⟨_, o', rfl, h2.1, rfl, h2.2⟩
        cases hdd : s1.1.dead with
        | true =>
          rw [hdd] at d7 fin
          have hq := hk1 true
          have hqH := hidden (show Step (In L D) w o _ o1 ∧ _ from ⟨hst2.trans hq.2, hq.1⟩)
          clear hq hk1 hst2 hdd hld1
          go_wp2_with fail
          go_ret
          exact fin _ _ true (hidden rfl) hqH
        | false =>
          rw [hdd] at d7 fin
          by_cases h9 : e1 = 9
          · subst h9
            have hq := hk1 true
            have hqH := hidden (show Step (In L D) w o _ o1 ∧ _ from ⟨hst2.trans hq.2, hq.1⟩)
            clear hq hk1 hst2 hdd hld1
            go_wp2_with fail
            go_ret
            exact fin _ _ true (hidden rfl) hqH
          · have h9' : (e1 == 9) = false := by simpa using h9
            have hq := hk1 false
            have hqH := hidden (show Step (In L D) w o _ o1 ∧ _ from ⟨hst2.trans hq.2, hq.1⟩)
            have h9H := hidden h9'
            clear hq hk1 hst2 hdd hld1 h9
            go_wp2_with fail
            go_ret
            exact fin _ _ false (hidden (by rw [h9H.out]; rfl)) hqH
    · obtain rfl : n = k := by omega
      have hE : LogM.goes st er 0 n = (st n, 0) := by rw [hgoH.out n (Nat.le_refl _) hj.out, Nat.sub_self]; rfl
      have hEH := hidden hE
      clear hE
      go_wp2_with fail
      go_ret
      rw [hEH.out]
      exact ⟨_, o', rfl, hst, rfl, hld⟩
end Go.Proofs.YtfgggkheadfiaaaR
