/- Contract: log.Open. -/
import Derived.Test.YtfgggkheadfiaaaRLog16
import Derived.Test.YtfgggkheadfiaaaRLogP3
namespace Go.Proofs.YtfgggkheadfiaaaR
open Go Go.RowKit
attribute [local go_sem ↓] Go.wp_at_zero Go.wp_at_succ

theorem inf139 : (Try.prog.info? 139).map (fun i => (i.zero.map (fun z => z.cells.toList), i.size, i.bytes)) = some (some [.int .u64 0, .int .i64 0, .int .i64 0, .slice none 0 0], 4, 48) := by kernel_rfl
def lvCells : List LeafM → List Value → List Value
  | x :: ls, bv :: bvs => leafV x bv ++ lvCells ls bvs
  | _, _ => []
theorem lvCells_snoc (x : LeafM) (bv : Value) : ∀ (ls : List LeafM) (bvs : List Value), bvs.length = ls.length → lvCells (ls ++ [x]) (bvs ++ [bv]) = lvCells ls bvs ++ leafV x bv
  | [], [], _ => by simp [lvCells]
  | [], _ :: _, h => by simp at h
  | _ :: _, [], h => by simp at h
  | y :: ls, b :: bvs, h => by simp only [List.cons_append, lvCells, List.append_assoc]; rw [lvCells_snoc x bv ls bvs (by simpa using h)]
theorem lvCells_get : ∀ (ls : List LeafM) (bvs : List Value) (i : Nat) (x : LeafM) (bv : Value) (j : Nat) (v : Value), ls[i]? = some x → bvs[i]? = some bv → (leafV x bv)[j]? = some v → (lvCells ls bvs)[i * 4 + j]? = some v
  | [], _, _, _, _, _, _, h, _, _ => by simp at h
  | _ :: _, [], _, _, _, _, _, _, h, _ => by simp at h
  | y :: ls, b :: bvs, 0, x, bv, j, v, h1, h2, h3 => by
    simp only [List.getElem?_cons_zero, Option.some.injEq] at h1 h2
    subst h1; subst h2
    simp only [lvCells, Nat.zero_mul, Nat.zero_add]
    rw [List.getElem?_append_left (List.getElem?_eq_some_iff.1 h3).1]; exact h3
  | y :: ls, b :: bvs, i + 1, x, bv, j, v, h1, h2, h3 => by
    simp only [List.getElem?_cons_succ] at h1 h2
    simp only [lvCells]
    rw [List.getElem?_append_right (by simp [leafV]; omega)]
    rw [show (i + 1) * 4 + j - (leafV y b).length = i * 4 + j from by simp [leafV]; omega]
    exact lvCells_get ls bvs i x bv j v h1 h2 h3
/-- A row of leaves of its own; its block is the object X's. -/
def LvRow (W : World) (o : Own) (X base : Nat) (v : Value) (ls : List LeafM) : Prop :=
  ∃ bvs, W.ownsRow base 139 4 v ls.length (lvCells ls bvs) ∧ RowsB W o bvs (ls.map LeafM.bytes) ∧ ∀ k, v.ownBlock = some k → o k = (X, 2)
theorem LvRow.nil (W : World) (o : Own) (X base : Nat) : LvRow W o X base (.slice none 0 0) [] :=
  ⟨[], by simpa [lvCells] using World.ownsRow_nil _ _ _ _, RowsB.nil _ _, fun k hk => by simp [Value.ownBlock] at hk⟩
theorem LvRow.form {W : World} {o : Own} {X base : Nat} {v : Value} {ls : List LeafM} (h : LvRow W o X base v ls) : ∃ a c, v = .slice a ls.length c := by
  obtain ⟨bvs, h1, -⟩ := h; exact own_form h1
theorem LvRow.step {W W' : World} {o o' : Own} {X base : Nat} {v : Value} {ls : List LeafM} {T : Nat → Prop} (h : LvRow W o X base v ls) (s : Step T W o W' o') (hX : ¬ T X) (h0 : ¬ T 0) : LvRow W' o' X base v ls := by
  obtain ⟨bvs, h1, h2, h3⟩ := h
  refine ⟨bvs, ⟨h1.1, ?_⟩, h2.step s h0, fun k hk => ?_⟩
  · rcases h1.2 with hn | ⟨g, cap, cur, hv, hb, hc, rest⟩
    · exact .inl hn
    · refine .inr ⟨g, cap, cur, hv, hb, ?_, rest⟩
      rw [s.block g (lt_of_block hc) (by rw [h3 g (by rw [hv]; rfl)]; exact hX)]; exact hc
  · rw [s.own k (h1.lt k hk).2]; exact h3 k hk
/-- A cell of another block is written. -/
theorem LvRow.set {W : World} {o : Own} {X base : Nat} {v : Value} {ls : List LeafM} (h : LvRow W o X base v ls) (hX : X ≠ 0) (a : Addr) (u : Value) (ha : o a.block ≠ (X, 2)) (ha1 : (o a.block).1 = X) : LvRow (W.setCell a u) o X base v ls := by
  obtain ⟨bvs, h1, h2, h3⟩ := h
  have hs := (Step.refl (Only X) W o).setCell (a := a) u (.inl ha1)
  refine ⟨bvs, ⟨h1.1, ?_⟩, h2.step hs (fun h => hX h.symm), h3⟩
  rcases h1.2 with hn | ⟨g, cap, cur, hv, hb, hc, rest⟩
  · exact .inl hn
  · refine .inr ⟨g, cap, cur, hv, hb, ?_, rest⟩
    rw [Below.heap_setCell _ _ _ _ (by rintro rfl; exact ha (h3 _ (by rw [hv]; rfl)))]; exact hc
/-- A leaf is appended. -/
theorem LvRow.append {W : World} {o : Own} {X base : Nat} {v : Value} {ls : List LeafM} (h : LvRow W o X base v ls) (hbase : base ≤ W.heap.size) (hX : X ≠ 0) (hn : ls.length ≤ 100000) {nb : Nat} {x : LeafM} {bv : Value}
    (hnb : W.heap[nb]? = some (.cells (leafV x bv).toArray 139 (0, 0))) (hb : Bytes W o bv x.bytes) :
    ∃ v' w' o', (Builtin.append_ #[136, 136] 136 #[v, .slice (some ⟨nb, 0, none⟩) 1 1]).run Try.prog W = .ok v' w' ∧ LvRow w' o' X base v' (ls ++ [x]) ∧ Step (Only X) W o w' o' ∧ (∀ k, v.ownBlock ≠ some k → k < W.heap.size → w'.heap[k]? = W.heap[k]?) := by
  obtain ⟨bvs, h1, h2, h3⟩ := h
  obtain ⟨g, cap, w', hrun, hown, hgrow, hat, hlt⟩ := run_append_row (P := Try.prog) W 136 136 139 Try.underlying136 inf139 rfl (by omega) hbase v ls.length _ h1 nb 0 1 1 (leafV x bv) rfl (range_whole hnb)
    (by have := one_leafV hb; intro u hu; exact List.all_eq_true.1 this u hu) (by omega) (by omega) (by omega)
  have hgt : o g = (X, 2) ∨ W.heap.size ≤ g := by
    rcases hat with hat | hat
    · exact .inl (h3 g hat)
    · exact .inr (by omega)
  have hs : Step (Only X) W o w' (tagAt o g (X, 2)) := (Step.refl (Only X) W o).grown hgrow (fun k hk => .inl (by rw [h3 k hk]; rfl)) g (X, 2) hgt
  refine ⟨_, w', _, hrun, ⟨bvs ++ [bv], ?_, ?_, ?_⟩, hs, fun k hk hlt => hgrow.block k hlt (fun h => hk h.symm)⟩
  · rw [lvCells_snoc _ _ _ _ (by have := h2.1; simpa using this)]; simpa using hown
  · rw [List.map_append]
    exact (h2.step hs (fun h => hX h.symm)).snoc (hb.step hs (fun h => hX h.symm))
  · intro k hk
    simp only [Value.ownBlock, Option.some.injEq] at hk
    subst hk; exact tagAt_same _ _ _
/-- The row, cut at m, read as leaves; its block belongs to nobody from now on. -/
theorem LvRow.lvs {W : World} {o : Own} {X base : Nat} {v : Value} {ls : List LeafM} (h : LvRow W o X base v ls) (hX : X ≠ 0) (m : Nat) (h1m : 1 ≤ m) (hm : m ≤ ls.length) :
    ∃ g cap, v = .slice (some ⟨g, 0, none⟩) ls.length cap ∧ ls.length ≤ cap ∧ cap ≤ maxLen ∧ base ≤ g ∧ o g = (X, 2) ∧ (∃ cs, W.heap[g]? = some (.cells cs 139 (0, 0))) ∧ LvsAt W (tagAt o g (0, 0)) (.slice (some ⟨g, 0, none⟩) m cap) (ls.take m) := by
  obtain ⟨bvs, h1, h2, h3⟩ := h
  rcases h1.2 with ⟨_, h0⟩ | ⟨g, cap, cur, rfl, hb, hc, h4, h5, h6, h7⟩
  · omega
  · have hgl := lt_of_block hc
    have hne : ∀ (k : Nat), (o k).1 = 0 → k ≠ g := fun k hk e => by rw [e, h3 g rfl] at hk; exact hX hk
    have hlen : bvs.length = ls.length := by have := h2.1; simpa using this
    refine ⟨g, cap, rfl, h4, h5, hb, h3 g rfl, ⟨cur, hc⟩, g, 0, cap, bvs.take m, by rw [List.length_take, Nat.min_eq_left hm], by rw [List.length_take]; omega, h5, by rw [tagAt_same], hgl, ?_, ?_⟩
    · have hs : Step Nobody W o W (tagAt o g (0, 0)) → True := fun _ => trivial
      refine ⟨by simp [hlen], fun i v l hv hl => ?_⟩
      have hv' : bvs[i]? = some v := by rw [List.getElem?_take] at hv; split at hv; exact hv; cases hv
      have hl' : (ls.map LeafM.bytes)[i]? = some l := by rw [List.map_take, List.getElem?_take] at hl; split at hl; exact hl; cases hl
      rcases h2.2 i v l hv' hl' with hq | ⟨b, off, cap', q1, q2, q3, q4, q5, q6⟩
      · exact .inl hq
      · exact .inr ⟨b, off, cap', q1, q2, q3, by rw [tagAt_other _ _ (hne b q4)]; exact q4, q5, q6⟩
    · intro i x bv hx hbv j u hu
      have hx' : ls[i]? = some x := by rw [List.getElem?_take] at hx; split at hx; exact hx; cases hx
      have hbv' : bvs[i]? = some bv := by rw [List.getElem?_take] at hbv; split at hbv; exact hbv; cases hbv
      have h8 := lvCells_get ls bvs i x bv j u hx' hbv' hu
      rw [← h7, List.getElem?_take] at h8
      split at h8
      · rw [Nat.zero_add]
        rw [cell_of_block (cs := cur.toList) (E := 139) (fr := (0, 0)) (by simpa using hc)]; exact h8
      · cases h8
section
variable {w : World} {o : Own} {L D pd : Nat} {d : DiskM}
set_option maxRecDepth 100000 in
theorem open_nil (first n : Int) (w : World) : Calls Try.prog 38 #[.pointer none, .int .i64 first, .int .i64 n] w fun e w' => e = .returned (.tuple #[.pointer none, .int .i64 8]) ∧ w = w' := by
  go_enter Try.func38, Try.ntmps38
  go_wp2
  go_ret2
  exact ⟨rfl, rfl⟩
set_option maxRecDepth 100000 in
theorem open_dead (h : DiskAt w o D pd d) (hd : d.dead = true) (first n : Int) :
    Calls Try.prog 38 #[.pointer (some ⟨pd, 0, none⟩), .int .i64 first, .int .i64 n] w fun e w' => e = .returned (.tuple #[.pointer none, .int .i64 9]) ∧ w = w' := by
  have hdd := dead_any h
  rw [hd] at hdd
  clear hd
  go_enter Try.func38, Try.ntmps38
  go_wp2_with fail
  refine hdd.mono ?_; rintro e w' ⟨rfl, rfl⟩
  go_wp2_with fail
  go_ret2
  exact ⟨rfl, rfl⟩
set_option maxRecDepth 100000 in
set_option maxHeartbeats 1600000 in
theorem open_arg (h : DiskAt w o D pd d) (hd : d.dead = false) (first n : Int) (hb : n < 2 ∨ first < 0 ∨ (d.pages.length : Int) - n < first) (hn : n ≤ 9223372036854775807 ∧ -9223372036854775808 ≤ first ∧ first ≤ 9223372036854775807) :
    Calls Try.prog 38 #[.pointer (some ⟨pd, 0, none⟩), .int .i64 first, .int .i64 n] w (Ret Nobody w o fun v _w' _o' => v = .tuple #[.pointer none, .int .i64 1]) := by
  have hdd := dead_any h
  rw [hd] at hdd
  have hsz := size_any h
  have hst := (Step.refl Nobody w o).drew
  clear hd
  go_enter Try.func38, Try.ntmps38
  go_wp2_with fail
  refine hdd.mono ?_; rintro e w' ⟨rfl, rfl⟩
  have hpl : (d.pages.length : Int) ≤ 4096 := by obtain ⟨h1, h2, -⟩ := h.wf; omega
  have hw : 2 ≤ n → IntKind.i64.wrap ((d.pages.length : Int) - n) = (d.pages.length : Int) - n := fun h2 => wrap_i64 (by omega) (by omega)
  by_cases hA : n < 2
  · clear hw hpl hb hn
    go_wp2_with fail
    all_goals first | (go_ret2; exact ⟨_, o, rfl, Step.refl _ _ _, rfl⟩) | skip
  · have hw2 := hw (by omega)
    clear hw
    by_cases hB : first < 0
    · clear hw2 hpl hb hn
      go_wp2_with fail
      all_goals first | (go_ret2; exact ⟨_, o, rfl, Step.refl _ _ _, rfl⟩) | skip
    · have hC : (d.pages.length : Int) - n < first := by omega
      clear hpl hb hn
      go_wp2_with fail
      refine hsz.mono ?_; rintro e w' ⟨rfl, rfl⟩
      go_wp2_with fail
      all_goals first | (go_ret2; exact ⟨_, o, rfl, Step.refl _ _ _, rfl⟩) | skip

def LogM.raw (f n : Nat) (S : BitVec 64) : LogM := ⟨f, n, S, false, 1, [], false⟩
theorem LogM.newest_snoc (ps : List (List UInt8)) (k : Nat) (p : List UInt8) (h : ps[k]? = some p) : LogM.newest (ps.take (k + 1)) = LogM.umax (LogM.umax (LogM.newest (ps.take k)) (num (p.take 8))) (num (p.drop 504)) := by
  rw [List.take_add_one, h]
  simp only [LogM.newest, Option.toList_some, List.foldl_append, List.foldl_cons, List.foldl_nil]
theorem takeWhile_at {α : Type} (p : α → Bool) (l : List α) (k : Nat) (x : α) (h : l[k]? = some x) (hk : k ≤ (l.takeWhile p).length) : p x = true ↔ k < (l.takeWhile p).length := by
  constructor
  · intro hx
    rw [LogM.lt_takeWhile]
    intro i hi
    by_cases hik : i = k
    · subst hik; exact ⟨x, h, hx⟩
    · exact (LogM.lt_takeWhile p l i).1 (by omega) i (Nat.le_refl _)
  · intro hl
    obtain ⟨y, hy, hp⟩ := (LogM.lt_takeWhile p l k).1 hl k (Nat.le_refl _)
    rw [h] at hy; cases hy; exact hp

/-- What Open answers on a part whose pages are ps. -/
def Opened (w w' : World) (o' : Own) (L pd f : Nat) (ps : List (List UInt8)) (v : Value) : Prop :=
  (LogM.newest ps = BitVec.allOnes 64 → v = .tuple #[.pointer none, .int .i64 2]) ∧
  (LogM.newest ps ≠ BitVec.allOnes 64 → ∃ p, w.heap.size ≤ p ∧ v = .tuple #[.pointer (some ⟨p, 0, none⟩), .int .i64 0] ∧ LogAt w' o' L p pd (LogM.ofPages f ps))
theorem zs139 : (Try.prog.info? 139).map (fun i => (i.zero.map (fun z => z.cells.toList), i.size)) = some (some [.int .u64 0, .int .i64 0, .int .i64 0, .slice none 0 0], 4) := by kernel_rfl
theorem buildSlice136 (w : World) (x : LeafM) (bv : Value) (_h1 : (leafV x bv).all (·.oneCell') = true) :
    (Instr.buildSlice 136 1 #[(0, .agg (leafV x bv).toArray)]).run Try.prog w = .ok (.slice (some ⟨w.heap.size, 0, none⟩) 1 1) (w.alloc (.cells (leafV x bv).toArray 139)) :=
  run_buildSlice_one w 136 139 _ (.agg (leafV x bv).toArray) (leafV x bv) Try.underlying136 zs139 rfl (by simp [leafV]) (by simp [leafV]) rfl
theorem umax3_int (S A B : BitVec 64) : (if (if S.toNat < A.toNat then (A.toNat : Int) else (S.toNat : Int)) < (B.toNat : Int) then (B.toNat : Int) else if S.toNat < A.toNat then (A.toNat : Int) else (S.toNat : Int)) = ((LogM.umax (LogM.umax S A) B).toNat : Int) := by
  rw [LogM.umax_toNat, LogM.umax_toNat]
  split <;> split <;> omega
set_option maxRecDepth 100000 in
set_option maxHeartbeats 6400000 in
theorem open_yes (hL : L ≠ 0) (_hD : D ≠ 0) (hLD : L ≠ D) (h : DiskAt w o D pd d) (hrow : d.row.length ≤ 1000000) (hd : d.dead = false) (f n : Nat) (h2n : 2 ≤ n) (hn : n ≤ 2000) (hf : f + n ≤ d.pages.length) :
    Calls Try.prog 38 #[.pointer (some ⟨pd, 0, none⟩), .int .i64 (f : Int), .int .i64 (n : Int)] w (Ret (Only L) w o fun v w' o' =>
      Opened w w' o' L pd f (LogM.seenPages d f n) v) := by
  have hN : ¬ Only L 0 := fun h => hL h.symm
  have hND : ¬ Only L D := fun h => hLD h.symm
  have hdd := dead_any h
  rw [hd] at hdd
  have hsz := size_any h
  obtain ⟨ps, hps⟩ : ∃ ps, LogM.seenPages d f n = ps := ⟨_, rfl⟩
  have hpl : ps.length = n := by rw [← hps]; exact LogM.length_seenPages _ _ _
  have hpg : ∀ k, k < n → ps[k]? = some (d.seen (f + k)) := fun k hk => by rw [← hps]; exact LogM.get_seenPages _ _ _ _ hk
  have hwf := h.wf
  have hpl4 : d.pages.length ≤ 4096 := hwf.2.1
  have hasked : ∀ k, k < n → d.asked ((f + k : Nat) : Int) 512 = 0 := fun k hk => by
    unfold DiskM.asked; rw [hd, if_neg (by simp), if_neg (by omega)]
  rw [hps]
  have hA1 : ¬ (n : Int) < 2 := by omega
  have hA2 : ¬ (f : Int) < 0 := by omega
  have hA3 : ¬ (d.pages.length : Int) - (n : Int) < (f : Int) := by omega
  have hA4 : IntKind.i64.wrap ((d.pages.length : Int) - (n : Int)) = (d.pages.length : Int) - (n : Int) := wrap_i64 (by omega) (by omega)
  -- the log's own struct
  have hbox : LogAt (w.alloc (.cells ((LogM.raw f n 0).cells pd (.slice none 0 0)).toArray 135)) (tagAt o w.heap.size (L, 0)) L w.heap.size pd (LogM.raw f n 0) :=
    ⟨.slice none 0 0, [], heap_alloc_new w _, World.ownsRow_nil _ _ _ _, RowsT.nil _ _, tagAt_same _ _ _, fun k hk => by simp [Value.ownBlock] at hk,
      ⟨by show f ≤ 4096; omega, h2n, hn, Nat.le_refl _, by show 1 ≤ n; omega, by show 0 + 1 ≤ 1; omega, fun r hr => by simp [LogM.raw] at hr⟩⟩
  have hsb : Step (Only L) w o _ _ := (Step.refl (Only L) w o).alloc (.cells ((LogM.raw f n 0).cells pd (.slice none 0 0)).toArray 135) (L, 0)
  obtain ⟨t, ht⟩ : ∃ t, (ps.takeWhile fun p => (saidL p).2).length = t := ⟨_, rfl⟩
  have htn : t ≤ n := by rw [← ht, ← hpl]; exact List.Sublist.length_le (List.takeWhile_sublist _)
  have htk : ∀ k, k < n → k ≤ t → ((saidL (d.seen (f + k))).2 = true ↔ k < t) := fun k hk hkt => by
    rw [← ht] at hkt ⊢
    exact takeWhile_at _ ps k _ (hpg k hk) hkt
  have hsn : ∀ k, k < n → LogM.newest (ps.take (k + 1)) = LogM.umax (LogM.umax (LogM.newest (ps.take k)) (num ((d.seen (f + k)).take 8))) (num ((d.seen (f + k)).drop 504)) := fun k hk => LogM.newest_snoc ps k _ (hpg k hk)
  have htk1 : ∀ k, k < n → (ps.take (k + 1)) = ps.take k ++ [d.seen (f + k)] := fun k hk => by rw [List.take_add_one, hpg k hk]; rfl
  have hpsH := hidden hps
  have hplH := hidden hpl
  have hpgH := hidden hpg
  have haskedH := hidden hasked
  have htkH := hidden htk
  have hsnH := hidden hsn
  have htk1H := hidden htk1
  have htH := hidden ht
  have hh := hidden h
  clear hps hpl hpg hasked htk hsn htk1 ht hwf h
  go_enter Try.func38, Try.ntmps38
  go_wp2_with fail
  refine hdd.mono ?_; rintro e w' ⟨rfl, rfl⟩
  go_wp2_with fail
  refine hsz.mono ?_; rintro e w' ⟨rfl, rfl⟩
  clear hdd hsz
  go_wp2_with fail
  clear hA1 hA2 hA3 hA4
  have hc0 : (LogM.raw f n 0).cells pd (.slice none 0 0) = [.pointer (some ⟨pd, 0, none⟩), .int .i64 (f : Int), .int .i64 (n : Int), .int .u64 0, .bool false, .int .i64 1, .slice none 0 0, .bool false] := rfl
  rw [hc0] at hbox hsb
  clear hc0
  obtain ⟨p, hp⟩ : ∃ p, w.heap.size = p := ⟨_, rfl⟩
  rw [hp] at hbox hsb ⊢
  go_loopw [9, 10, 44] (fun lv en i wr => ∃ (k E : Nat) (o' : Own), k ≤ n ∧ i = .int .i64 k ∧ en = .int .i64 (E : Int) ∧ Hid (E = if t < k then t else n) ∧ Step (Only L) w o wr o' ∧ LogAt wr o' L p pd (LogM.raw f n (LogM.newest (ps.take k))) ∧ LvRow wr o' L p lv ((ps.take k).map fun p => (saidL p).1))
    (fun _ _ i _ => n - (intOf i).toNat)
  case atStart => exact ⟨0, n, _, Nat.zero_le _, rfl, rfl, hidden (by simp), hsb, hbox, LvRow.nil _ _ _ _⟩
  case round =>
    obtain ⟨k, E, o1, hk, rfl, rfl, hE, hst, hlg, hlv⟩ := hrel
    by_cases hlt : k < n
    · have hd1 := hh.out.step hst hND
      have hrd := read_yes hd1 ((f + k : Nat) : Int) (haskedH.out k hlt) hrow
      have hlti : (k : Int) < (n : Int) := by omega
      rw [show (((f + k : Nat) : Int)).toNat = f + k from by omega, show ((f + k : Nat) : Int) = (f : Int) + (k : Int) from by omega] at hrd
      have hplen : (d.seen (f + k)).length = 512 := by
        obtain ⟨hw1, hw2, hw3, hw4, -, -⟩ := hh.out.wf
        have : ∀ (row : List (Nat × List UInt8)) (q : List UInt8), q.length = 512 → (∀ x ∈ row, x.2.length = 512) → (DiskM.seenIn (f + k) q row).length = 512 := by
          intro row
          induction row with
          | nil => intro q hq _; exact hq
          | cons x r ih =>
            intro q hq hx
            refine ih _ ?_ (fun y hy => hx y (by simp [hy]))
            dsimp only
            split
            · exact hx x (by simp)
            · exact hq
        exact this _ _ (DiskM.getD_wf hw3 (by omega)) (fun x hx => (hw4 x hx).2)
      have htk := htkH.out k hlt
      have hsn := hsnH.out k hlt
      have htk1 := htk1H.out k hlt
      obtain ⟨P, hP⟩ : ∃ P, d.seen (f + k) = P := ⟨_, rfl⟩
      rw [hP] at hrd hplen htk hsn htk1
      obtain ⟨S, hS⟩ : ∃ S, LogM.newest (ps.take k) = S := ⟨_, rfl⟩
      rw [hS] at hlg hsn
      obtain ⟨ls, hls⟩ : ∃ ls, ((ps.take k).map fun p => (saidL p).1) = ls := ⟨_, rfl⟩
      have hlsn : ((ps.take (k + 1)).map fun p => (saidL p).1) = ls ++ [(saidL P).1] := by rw [htk1, List.map_append, hls]; rfl
      have hlsl : ls.length = k := by rw [← hls, List.length_map, List.length_take, hplH.out]; omega
      rw [hls] at hlv
      obtain ⟨la, lc, rfl⟩ := hlv.form
      rw [hlsl] at hlv ⊢
      have htkH := hidden htk
      have hsnH := hidden hsn
      have hlsnH := hidden hlsn
      have hlslH := hidden hlsl
      clear htk hsn hlsn hls hlsl htk1 hS hP hd1
      go_wp2_with fail
      refine hrd.mono ?_; rintro e W1 ⟨v1, o2, rfl, hs1, b, rfl, hb1, hh1, ho1⟩
      have hst1 := hst.trans (hs1.only L)
      have hlg1 := hlg.step hs1 (fun h => h) (fun h => h)
      have hlv1 := hlv.step hs1 (fun h => h) (fun h => h)
      have hpb : Bytes W1 o2 (.slice (some ⟨b, 0, none⟩) 512 512) P := .inr ⟨b, 0, 512, by rw [hplen], by omega, by simp [maxLen], by rw [ho1], lt_of_block hh1, range_whole hh1⟩
      have hdr : Step Nobody W1 o2 W1.drew o2 := (Step.refl _ _ _).drew
      have hst2 := hst1.trans (hdr.only L)
      have hlg2 := hlg1.step hdr (fun h => h) (fun h => h)
      have hlv2 := hlv1.step hdr (fun h => h) (fun h => h)
      have hpb2 := hpb.step hdr (fun h => h)
      have hq1 := hpb2.part 0 8 (by omega) (by omega)
      have hq2 := hpb2.part 504 512 (by omega) (by omega)
      simp only [List.drop_zero, Nat.zero_add, Nat.sub_zero, Nat.reduceSub] at hq1 hq2
      rw [List.take_of_length_le (i := 8) (l := P.drop 504) (by simp; omega)] at hq2
      have hheld := hlg2.held
      obtain ⟨-, -, -, d3, -, -, -⟩ := hheld
      simp only [LogM.raw] at d3
      clear hrd hst hlg hlv hs1 hst1 hlg1 hlv1 hpb hdr
      go_wp2_with fail
      have f3 : W1.drew.frozen? ⟨p, 3, none⟩ = false := by obtain ⟨_, _, _, hf, -⟩ := hlg2.open; exact hf 3
      have hn1 := lnumber_any hq1 (by simp; omega)
      have hn2 := lnumber_any hq2 (by simp; omega)
      clear hq1 hq2
      obtain ⟨A, hA⟩ : ∃ A, num (P.take 8) = A := ⟨_, rfl⟩
      obtain ⟨B, hB⟩ : ∃ B, num (P.drop 504) = B := ⟨_, rfl⟩
      rw [hA] at hn1
      rw [hB] at hn2
      have hsn := hsnH.out
      rw [hA, hB] at hsn
      have hsnH := hidden hsn
      clear hsn hA hB
      refine wp_region_g (fun i w' => i < 17 ∨ 18 ≤ i → w'.cell? ⟨p, 3, none⟩ = some (.int .u64 (S.toNat : Int))) (by kernel_rfl) ?_
      refine wpAnyG_take (i := 0) (St := (fun _ => True)) (v := ?_) rfl (by kernel_rfl) (by kernel_rfl) (by kernel_rfl) (fun _ _ _ _ => trivial) (fun _ _ _ h => h) (Or.inl ⟨by rfl, ?_⟩) (trivial) ?_
      rotate_left
      · intro w hSw; ((try dsimp only at hSw); go_simp; (try with_reducible rfl))
      simp only [Act.put, List.setIfInBounds_toArray, List.set_cons_zero, List.set_cons_succ]
      refine wpAnyG_take (i := 1) (St := (fun _ => True)) (v := ?_) rfl (by kernel_rfl) (by kernel_rfl) (by kernel_rfl) (fun _ _ _ _ => trivial) (fun _ _ _ h => h) (Or.inl ⟨by rfl, ?_⟩) (trivial) ?_
      rotate_left
      · intro w hSw; ((try dsimp only at hSw); go_simp; (try with_reducible rfl))
      simp only [Act.put, List.setIfInBounds_toArray, List.set_cons_zero, List.set_cons_succ]
      refine wpAnyG_take (i := 2) (St := (fun _ => True)) (v := ?_) rfl (by kernel_rfl) (by kernel_rfl) (by kernel_rfl) (fun _ _ _ _ => trivial) (fun _ _ _ h => h) (Or.inl ⟨by rfl, ?_⟩) (trivial) ?_
      rotate_left
      · intro w hSw; ((try dsimp only at hSw); go_simp; (try with_reducible rfl))
      simp only [Act.put, List.setIfInBounds_toArray, List.set_cons_zero, List.set_cons_succ]
      refine wpAnyG_take (i := 3) (St := (fun _ => True)) (v := ?_) rfl (by kernel_rfl) (by kernel_rfl) (by kernel_rfl) (fun _ _ _ _ => trivial) (fun _ _ _ h => h) (Or.inl ⟨by rfl, ?_⟩) (trivial) ?_
      rotate_left
      · intro w hSw; ((try dsimp only at hSw); go_simp; (try with_reducible rfl))
      simp only [Act.put, List.setIfInBounds_toArray, List.set_cons_zero, List.set_cons_succ]
      refine wpAnyG_take (i := 4) (St := (fun w' => w'.cell? ⟨p, 3, none⟩ = some (.int .u64 (S.toNat : Int)))) (v := ?_) rfl (by kernel_rfl) (by kernel_rfl) (by kernel_rfl) (fun j w hd h => h (dep_out (lo := 17) (hi := 18) (by kernel_rfl) j hd)) (fun _ _ _ h => h) (Or.inl ⟨by rfl, ?_⟩) (d3) ?_
      rotate_left
      · intro w hSw; ((try dsimp only at hSw); go_simp; (try with_reducible rfl))
      simp only [Act.put, List.setIfInBounds_toArray, List.set_cons_zero, List.set_cons_succ]
      refine wpAnyG_take (i := 5) (St := (fun _ => True)) (v := ?_) rfl (by kernel_rfl) (by kernel_rfl) (by kernel_rfl) (fun _ _ _ _ => trivial) (fun _ _ _ h => h) (Or.inl ⟨by rfl, ?_⟩) (trivial) ?_
      rotate_left
      · intro w hSw; ((try dsimp only at hSw); go_simp; (try with_reducible rfl))
      simp only [Act.put, List.setIfInBounds_toArray, List.set_cons_zero, List.set_cons_succ]
      refine wpAnyG_take (i := 6) (St := (fun _ => True)) (v := ?_) rfl (by kernel_rfl) (by kernel_rfl) (by kernel_rfl) (fun _ _ _ _ => trivial) (fun _ _ _ h => h) (Or.inl ⟨by rfl, ?_⟩) (trivial) ?_
      rotate_left
      · intro w hSw; ((try dsimp only at hSw); go_simp; (try with_reducible rfl))
      simp only [Act.put, List.setIfInBounds_toArray, List.set_cons_zero, List.set_cons_succ]
      refine wpAnyG_take (i := 8) (St := (fun _ => True)) (v := ?_) rfl (by kernel_rfl) (by kernel_rfl) (by kernel_rfl) (fun _ _ _ _ => trivial) (fun _ _ _ h => h) (Or.inl ⟨by rfl, ?_⟩) (trivial) ?_
      rotate_left
      · intro w hSw; ((try dsimp only at hSw); go_simp; (try with_reducible rfl))
      simp only [Act.put, List.setIfInBounds_toArray, List.set_cons_zero, List.set_cons_succ]
      refine wpAnyG_take (i := 9) (St := (fun _ => True)) (v := ?_) rfl (by kernel_rfl) (by kernel_rfl) (by kernel_rfl) (fun _ _ _ _ => trivial) (fun _ _ _ h => h) (Or.inl ⟨by rfl, ?_⟩) (trivial) ?_
      rotate_left
      · intro w hSw; ((try dsimp only at hSw); go_simp; (try with_reducible rfl))
      simp only [Act.put, List.setIfInBounds_toArray, List.set_cons_zero, List.set_cons_succ]
      refine wpAnyG_take (i := 10) (St := (fun _ => True)) (v := ?_) rfl (by kernel_rfl) (by kernel_rfl) (by kernel_rfl) (fun _ _ _ _ => trivial) (fun _ _ _ h => h) (Or.inl ⟨by rfl, ?_⟩) (trivial) ?_
      rotate_left
      · intro w hSw; ((try dsimp only at hSw); go_simp; (try with_reducible rfl))
      simp only [Act.put, List.setIfInBounds_toArray, List.set_cons_zero, List.set_cons_succ]
      refine wpAnyG_take (i := 11) (St := (fun _ => True)) (v := ?_) rfl (by kernel_rfl) (by kernel_rfl) (by kernel_rfl) (fun _ _ _ _ => trivial) (fun _ _ _ h => h) (Or.inl ⟨by rfl, ?_⟩) (trivial) ?_
      rotate_left
      · intro w hSw; ((try dsimp only at hSw); go_simp; (try with_reducible rfl))
      simp only [Act.put, List.setIfInBounds_toArray, List.set_cons_zero, List.set_cons_succ]
      rw [wrap_i64 (n := 504) (by omega) (by omega)]
      refine wpAnyG_take (i := 12) (St := (fun _ => True)) (v := ?_) rfl (by kernel_rfl) (by kernel_rfl) (by kernel_rfl) (fun _ _ _ _ => trivial) (fun _ _ _ h => h) (Or.inl ⟨by rfl, ?_⟩) (trivial) ?_
      rotate_left
      · intro w hSw; ((try dsimp only at hSw); go_simp; (try with_reducible rfl))
      simp only [Act.put, List.setIfInBounds_toArray, List.set_cons_zero, List.set_cons_succ]
      refine wpAnyG_one (i := 7) rfl (by kernel_rfl) ?_
      go_wp2_with fail
      refine hn1.mono ?_; rintro e w' ⟨rfl, rfl⟩
      go_wp2_with fail
      refine ⟨.inl trivial, ?_⟩
      refine wpAnyG_one (i := 13) rfl (by kernel_rfl) ?_
      go_wp2_with fail
      refine hn2.mono ?_; rintro e w' ⟨rfl, rfl⟩
      go_wp2_with fail
      refine ⟨.inl trivial, ?_⟩
      refine wpAnyG_take (i := 14) (St := (fun _ => True)) (v := .int .u64 ((LogM.umax (LogM.umax S A) B).toNat : Int)) rfl (by kernel_rfl) (by kernel_rfl) (by kernel_rfl) (fun _ _ _ _ => trivial) (fun _ _ _ h => h) (Or.inl ⟨by rfl, ?_⟩) (trivial) ?_
      · intro w hSw; (try dsimp only at hSw); go_simp; exact umax3_int S A B
      simp only [Act.put, List.setIfInBounds_toArray, List.set_cons_zero, List.set_cons_succ]
      refine wpAnyG_take (i := 15) (St := (fun _ => True)) (v := ?_) rfl (by kernel_rfl) (by kernel_rfl) (by kernel_rfl) (fun _ _ _ _ => trivial) (fun _ _ _ h => h) (Or.inl ⟨by rfl, ?_⟩) (trivial) ?_
      rotate_left
      · intro w hSw; ((try dsimp only at hSw); go_simp; (try with_reducible rfl))
      simp only [Act.put, List.setIfInBounds_toArray, List.set_cons_zero, List.set_cons_succ]
      refine wpAnyG_take (i := 16) (St := (fun _ => True)) (v := ?_) rfl (by kernel_rfl) (by kernel_rfl) (by kernel_rfl) (fun _ _ _ _ => trivial) (fun _ _ _ h => h) (Or.inl ⟨by rfl, ?_⟩) (trivial) ?_
      rotate_left
      · intro w hSw; ((try dsimp only at hSw); go_simp; (try with_reducible rfl))
      simp only [Act.put, List.setIfInBounds_toArray, List.set_cons_zero, List.set_cons_succ]
      refine wpAnyG_one (i := 17) rfl (by kernel_rfl) ?_
      go_wp2_with fail
      refine ⟨.inr (fun h => by rcases h with h | h <;> omega), ?_⟩
      refine wpAnyG_done (by kernel_rfl) ?_ _
      clear hn1 hn2
      obtain ⟨M, hM⟩ : ∃ M, LogM.umax (LogM.umax S A) B = M := ⟨_, rfl⟩
      rw [hM]
      have hWc : (W1.setCell ⟨p, 3, none⟩ (.int .u64 (M.toNat : Int))).drew = W1.drew.setCell ⟨p, 3, none⟩ (.int .u64 (M.toNat : Int)) := rfl
      rw [hWc]
      have hop : o2 p = (L, 0) := by obtain ⟨_, _, _, _, _, h, _⟩ := hlg2; exact h
      have hse := hlg2.setStep 3 (.int .u64 (M.toNat : Int))
      have hlg3 := hlg2.set (m' := LogM.raw f n M) hL 3 (.int .u64 (M.toNat : Int)) (fun rv => rfl) rfl hlg2.wf
      have hst3 := hst2.trans hse
      have hlv3 := hlv2.set hL ⟨p, 3, none⟩ (.int .u64 (M.toNat : Int)) (by rw [hop]; simp) (by rw [hop])
      have hpb3 := hpb2.step hse hN
      have hsnM : Hid (LogM.newest (ps.take (k + 1)) = M) := hidden (by rw [hsnH.out, hM])
      clear hM hWc hse hlg2 hst2 hlv2 hpb2 d3 f3 hsnH hh1 hb1 ho1
      generalize W1.drew.setCell ⟨p, 3, none⟩ (.int .u64 (M.toNat : Int)) = W2 at *
      have hsd := said_any hpb3 hplen
      obtain ⟨x, okb, hx⟩ : ∃ x okb, saidL P = (x, okb) := ⟨_, _, rfl⟩
      rw [hx] at hsd
      have hxH := hidden hx
      clear hx hpb3
      go_wp2_with fail
      refine hsd.mono ?_; rintro e W3 ⟨v3, o3, rfl, hs3, bv, rfl, hbv⟩
      have hst4 := hst3.trans (hs3.only L)
      have hlg4 := hlg3.step hs3 (fun h => h) (fun h => h)
      have hlv4 := hlv3.step hs3 (fun h => h) (fun h => h)
      have hal := hidden (run_alloc_zero (P := Try.prog) W3 139 _ zc139)
      have hsw := setCells_alloc_whole W3 #[.int .u64 0, .int .i64 0, .int .i64 0, .slice none 0 0] 139 (leafV x bv) rfl
      obtain ⟨hso, -⟩ := run_store_agg (P := Try.prog) (ty := 139) (vs := leafV x bv) (heap_alloc_new W3 (.cells [.int .u64 0, .int .i64 0, .int .i64 0, .slice none 0 0].toArray 139)) rfl (by kernel_rfl) (one_leafV hbv)
      rw [hsw] at hso
      have hsoH := hidden hso
      have hsa := (Step.refl Nobody W3 o3).alloc (.cells (leafV x bv).toArray 139) (0, 0)
      have hxb : (W3.alloc (.cells (leafV x bv).toArray 139)).heap[W3.heap.size]? = some (.cells (leafV x bv).toArray 139 (0, 0)) := heap_alloc_new W3 _
      have hst5 := hst4.trans (hsa.only L)
      have hlg5 := hlg4.step hsa (fun h => h) (fun h => h)
      have hlv5 := hlv4.step hsa (fun h => h) (fun h => h)
      have hbv5 := hbv.step hsa (fun h => h)
      clear hsw hso hst4 hst3 hlg4 hlg3 hlv4 hlv3 hs3 hsd hbv
      have hone := one_leafV hbv5
      have hW4 : ∃ W4, W3.alloc (.cells (leafV x bv).toArray 139) = W4 := ⟨_, rfl⟩
      obtain ⟨W4, hW4⟩ := hW4
      have hld := hidden (load139 (range_whole (w := W4) (b := W3.heap.size) (cs := leafV x bv) (by rw [← hW4]; exact hxb)))
      have hbs := hidden (buildSlice136 W4 x bv hone)
      rw [hW4] at hsoH hst5 hlg5 hlv5 hbv5 hxb
      generalize tagAt o3 W3.heap.size (0, 0) = o4 at *
      -- the row grows
      have hsA := (Step.refl Nobody W4 o4).alloc (.cells (leafV x bv).toArray 139) (0, 0)
      have hst6 := hst5.trans (hsA.only L)
      have hlg6 := hlg5.step hsA (fun h => h) (fun h => h)
      have hlv6 := hlv5.step hsA (fun h => h) (fun h => h)
      have hbv6 := hbv5.step hsA (fun h => h)
      have hpW : p ≤ (W4.alloc (.cells (leafV x bv).toArray 139)).heap.size := by have := hlg6.lt; omega
      obtain ⟨v', W5, o5, hrun, hlv7, hs7, hkp⟩ := hlv6.append hpW hL (by rw [hlslH.out]; omega) (heap_alloc_new W4 (.cells (leafV x bv).toArray 139)) hbv6
      have hst7 := hst6.trans hs7
      have hlg7 : LogAt W5 o5 L p pd (LogM.raw f n M) := by
        obtain ⟨rv, vs, g1, g2, g3, g4, g5, g6⟩ := hlg6
        have hpl := lt_of_block g1
        have hne : Value.ownBlock (.slice la k lc) ≠ some p := by
          intro hx
          obtain ⟨_, _, _, q3⟩ := hlv6
          have := q3 p hx
          rw [g4] at this; simp at this
        refine ⟨rv, vs, (hkp p hne hpl).trans g1, ownsRow_same g2 fun k' hk' => hkp k' ?_ (g2.lt k' hk').2, g3.step hs7 (fun h => hL h.symm), (hs7.own p hpl).trans g4, fun k' hk' => (hs7.own k' (g2.lt k' hk').2).trans (g5 k' hk'), g6⟩
        intro hx
        obtain ⟨_, _, _, q3⟩ := hlv6
        have h1 := q3 k' hx
        rw [g5 k' hk'] at h1
        simp at h1
      have hrunH := hidden hrun
      have hE' : okb = true → Hid (E = if t < k + 1 then t else n) := by
        intro hok; subst hok
        have hi := htkH.out
        rw [hxH.out] at hi
        refine hidden ?_
        rw [hE.out]
        by_cases h1 : t < k
        · rw [if_pos h1, if_pos (by omega)]
        · have := (hi (by omega)).1 rfl
          rw [if_neg h1, if_neg (by omega)]
      have hE0 : okb = false → (t < k → (¬ (k : Int) < (E : Int)) ∧ Hid (E = if t < k + 1 then t else n)) ∧ (¬ t < k → (k : Int) < (E : Int) ∧ Hid (k = if t < k + 1 then t else n)) := by
        intro hok; subst hok
        have hi := htkH.out
        rw [hxH.out] at hi
        have hEE := hE.out
        refine ⟨fun h1 => ?_, fun h1 => ?_⟩
        · rw [if_pos h1] at hEE
          exact ⟨by omega, hidden (by rw [if_pos (by omega)]; exact hEE)⟩
        · rw [if_neg h1] at hEE
          have h2 : ¬ k < t := fun h => by have := (hi (by omega)).2 h; cases this
          exact ⟨by omega, hidden (by rw [if_pos (by omega)]; omega)⟩
      have hrel : ∀ E', Hid (E' = if t < k + 1 then t else n) → Hid (∃ (k' E'' : Nat) (o' : Own), k' ≤ n ∧ Value.int .i64 ((k : Int) + 1) = .int .i64 k' ∧ Value.int .i64 (E' : Int) = .int .i64 (E'' : Int) ∧ Hid (E'' = if t < k' then t else n) ∧ Step (Only L) w o W5 o' ∧ LogAt W5 o' L p pd (LogM.raw f n (LogM.newest (ps.take k'))) ∧ LvRow W5 o' L p v' ((ps.take k').map fun p => (saidL p).1)) := fun E' hE' =>
        hidden ⟨k + 1, E', o5, hlt, by rw [show (k : Int) + 1 = ((k + 1 : Nat) : Int) from by omega], rfl, hE', hst7, by rw [hsnM.out]; exact hlg7, by rw [hlsnH.out, hxH.out]; exact hlv7⟩
      have hrelH := hidden hrel
      rw [hW4] at *
      clear hrun hrel hlg7 hst7 hs7 hlv7 hlv6 hlg6 hst6 hsA hbv6 hst5 hlg5 hlv5 hbv5 hone hsa hkp hpW
      cases hok : okb with
      | true =>
        rw [hok] at hxH
        have hq := hE' hok
        clear hok
        have hr := hrelH.out E hq
        clear hE0 hE' hrelH
        go_wp2_with (first
          | ((with_reducible apply lit_load); exact hld.out; simp only [Act.put, List.setIfInBounds_toArray, List.set_cons_zero, List.set_cons_succ])
          | ((with_reducible apply lit_alloc); exact hal.out; simp only [Act.put, List.setIfInBounds_toArray, List.set_cons_zero, List.set_cons_succ])
          | ((with_reducible apply lit_store); exact hsoH.out; simp only [Act.put])
          | ((with_reducible apply lit_buildSlice #[(0, .agg (leafV x bv).toArray)] rfl); exact hbs.out; simp only [Act.put, List.setIfInBounds_toArray, List.set_cons_zero, List.set_cons_succ])
          | ((with_reducible apply lit_append); exact hrunH.out; simp only [Act.put, List.setIfInBounds_toArray, List.set_cons_zero, List.set_cons_succ]))
        go_roundw
        case rel => exact hr.out
        case measure => simp [intOf]; omega
      | false =>
        rw [hok] at hxH
        have hq := hE0 hok
        clear hok
        by_cases ht : t < k
        · obtain ⟨q1, q2⟩ := hq.1 ht
          clear hq ht
          have hr := hrelH.out E q2
          clear hE0 hE' hrelH
          go_wp2_with (first
          | ((with_reducible apply lit_load); exact hld.out; simp only [Act.put, List.setIfInBounds_toArray, List.set_cons_zero, List.set_cons_succ])
          | ((with_reducible apply lit_alloc); exact hal.out; simp only [Act.put, List.setIfInBounds_toArray, List.set_cons_zero, List.set_cons_succ])
          | ((with_reducible apply lit_store); exact hsoH.out; simp only [Act.put])
          | ((with_reducible apply lit_buildSlice #[(0, .agg (leafV x bv).toArray)] rfl); exact hbs.out; simp only [Act.put, List.setIfInBounds_toArray, List.set_cons_zero, List.set_cons_succ])
          | ((with_reducible apply lit_append); exact hrunH.out; simp only [Act.put, List.setIfInBounds_toArray, List.set_cons_zero, List.set_cons_succ]))
          go_roundw
          case rel => exact hr.out
          case measure => simp [intOf]; omega
        · obtain ⟨q1, q2⟩ := hq.2 ht
          clear hq ht
          have hr := hrelH.out k q2
          clear hE0 hE' hrelH
          go_wp2_with (first
          | ((with_reducible apply lit_load); exact hld.out; simp only [Act.put, List.setIfInBounds_toArray, List.set_cons_zero, List.set_cons_succ])
          | ((with_reducible apply lit_alloc); exact hal.out; simp only [Act.put, List.setIfInBounds_toArray, List.set_cons_zero, List.set_cons_succ])
          | ((with_reducible apply lit_store); exact hsoH.out; simp only [Act.put])
          | ((with_reducible apply lit_buildSlice #[(0, .agg (leafV x bv).toArray)] rfl); exact hbs.out; simp only [Act.put, List.setIfInBounds_toArray, List.set_cons_zero, List.set_cons_succ])
          | ((with_reducible apply lit_append); exact hrunH.out; simp only [Act.put, List.setIfInBounds_toArray, List.set_cons_zero, List.set_cons_succ]))
          go_roundw
          case rel => exact hr.out
          case measure => simp [intOf]; omega
    · obtain rfl : n = k := by omega
      have hEt : E = t := by
        rw [hE.out]
        by_cases h1 : t < n
        · rw [if_pos h1]
        · rw [if_neg h1]; omega
      rw [hEt]
      have htake : ps.take n = ps := List.take_of_length_le (by rw [hplH.out]; exact Nat.le_refl _)
      rw [htake] at hlg hlv
      have hlT : (ps.map fun p => (saidL p).1).take t = LogM.leavesOf ps := by
        unfold LogM.leavesOf
        rw [List.prefix_iff_eq_take.1 (List.takeWhile_prefix (fun p => (saidL p).2) (l := ps)), htH.out, List.map_take]
      have hlen : (ps.map fun p => (saidL p).1).length = n := by rw [List.length_map]; exact hplH.out
      have hlT' : (LogM.leavesOf ps).length = t := by rw [← hlT, List.length_take, hlen]; omega
      have hOf : LogM.ofPages f ps = { LogM.raw f n (LogM.newest ps) with headed := LogM.isHead (LogM.leavesOf ps), end' := if LogM.isHead (LogM.leavesOf ps) then (LogM.readAll (LogM.leavesOf ps)).1 else 1, records := if LogM.isHead (LogM.leavesOf ps) then (LogM.readAll (LogM.leavesOf ps)).2.2 else [] } := by
        unfold LogM.ofPages LogM.raw; rw [hplH.out]
      have hbnd : ∀ x ∈ LogM.leavesOf ps, x.bytes.length ≤ 480 ∧ x.of' < 65536 ∧ x.at' < 65536 := by
        intro x hx
        obtain ⟨j, hj⟩ := List.mem_iff_getElem?.1 hx
        obtain ⟨q, _, hok, rfl⟩ := LogM.leaves_get hj
        obtain ⟨h1, _, h3, _⟩ := saidL_true hok
        rw [h1]
        have hsm : ∀ l : List UInt8, l.length ≤ 2 → (num l).toNat < 65536 := fun l hl => by
          rw [num_small (by omega)]
          exact Nat.lt_of_lt_of_le (numN_lt l) (by have := Nat.pow_le_pow_right (n := 256) (by omega) hl; omega)
        exact ⟨leafOf_len q h3, hsm _ (by simp; omega), hsm _ (by simp; omega)⟩
      have hOfH := hidden hOf
      have hbndH := hidden hbnd
      clear hOf hbnd
      obtain ⟨S, hS⟩ : ∃ S, LogM.newest ps = S := ⟨_, rfl⟩
      rw [hS] at hlg
      have hheld := hlg.held
      obtain ⟨-, -, -, d3, -, -, -⟩ := hheld
      simp only [LogM.raw] at d3
      have hSH := hidden hS
      clear hS hE hEt
      by_cases hS1 : S = BitVec.allOnes 64
      · have hSi : (S.toNat : Int) = 18446744073709551615 := by rw [hS1]; rfl
        rw [hSi] at d3
        have hfinH : Hid (LogM.newest ps = BitVec.allOnes 64) := hidden (by rw [hSH.out]; exact hS1)
        clear hS1 hlv hlg
        go_wp2_with fail
        go_ret2
        exact ⟨_, o1, rfl, hst, fun _ => rfl, fun h => absurd hfinH.out h⟩
      · have hSi : ((S.toNat : Int) == 18446744073709551615) = false := by
          rw [beq_eq_false_iff_ne]; intro h
          exact hS1 (BitVec.eq_of_toNat_eq (by rw [BitVec.toNat_allOnes]; omega))
        obtain ⟨la, lc, rfl⟩ := hlv.form
        rw [hlen] at hlv ⊢
        have hNS : Hid (LogM.newest ps ≠ BitVec.allOnes 64) := hidden (by rw [hSH.out]; exact hS1)
        clear hS1
        by_cases ht0 : t = 0
        · -- no leaf at all
          have hl0 : LogM.leavesOf ps = [] := List.eq_nil_of_length_eq_zero (by rw [hlT']; exact ht0)
          have f4 : wr.frozen? ⟨p, 4, none⟩ = false := by obtain ⟨_, _, _, hf, -⟩ := hlg.open; exact hf 4
          obtain ⟨_, _, ⟨-, -, -, -, d4, -⟩, -⟩ := hlg.open
          simp only [LogM.raw] at d4
          have hsx := hlg.setStep 4 (.bool false)
          have hlx := hlg.set (m' := LogM.raw f n S) hL 4 (.bool false) (fun rv => rfl) rfl hlg.wf
          have hstx := hst.trans hsx
          have hO : LogM.ofPages f ps = LogM.raw f n S := by rw [hOfH.out, hl0, hSH.out]; rfl
          have hxH := hidden (show Step (Only L) w o _ o1 ∧ LogAt _ o1 L p pd (LogM.ofPages f ps) from ⟨hstx, by rw [hO]; exact hlx⟩)
          subst ht0
          clear hO hlx hsx hstx hlg hlv hst hl0 hlT hlT'
          go_wp2_with fail
          go_ret2
          exact ⟨_, o1, rfl, hxH.out.1, fun h => absurd h hNS.out, fun _ => ⟨p, by omega, rfl, hxH.out.2⟩⟩
        · have ht1 : 1 ≤ t := by omega
          obtain ⟨g, cap, hgv, hcap, hcm, hgp, hog, -, hlvs⟩ := hlv.lvs hL t ht1 (by rw [hlen]; exact htn)
          rw [hlT] at hlvs
          rw [hlen] at hgv hcap
          simp only [Value.slice.injEq, true_and] at hgv
          obtain ⟨rfl, rfl⟩ := hgv
          obtain ⟨rv, vs, g1, g2, g3, g4, g5, g6⟩ := hlg
          have hpg : p ≠ g := by rintro rfl; rw [g4] at hog; simp at hog
          have hvs : vs = [] := List.eq_nil_of_length_eq_zero (by simpa [LogM.raw] using g2.1)
          subst hvs
          have hlg2 : LogAt wr (tagAt o1 g (0, 0)) L p pd (LogM.raw f n S) :=
            ⟨rv, [], g1, g2, RowsT.nil _ _, by rw [tagAt_other _ _ hpg]; exact g4, fun k hk => by
              rw [tagAt_other _ _ (by rintro rfl; rw [g5 _ hk] at hog; simp at hog)]; exact g5 k hk, g6⟩
          have hst2 : Step (Only L) w o wr (tagAt o1 g (0, 0)) := ⟨hst.os, hst.tape, hst.output, hst.size, fun k hk => by rw [tagAt_other _ _ (by omega)]; exact hst.own k hk, hst.block⟩
          generalize tagAt o1 g (0, 0) = o2 at *
          obtain ⟨x0, r, hxr⟩ : ∃ x0 r, LogM.leavesOf ps = x0 :: r := by
            cases hl : LogM.leavesOf ps with
            | nil => rw [hl] at hlT'; simp at hlT'; omega
            | cons x0 r => exact ⟨x0, r, rfl⟩
          have hatt := hlvs.at
          rw [hlT'] at hatt
          obtain ⟨b', off', cap', hv', -, -, hat⟩ := hatt
          simp only [Value.slice.injEq, Option.some.injEq, Addr.mk.injEq] at hv'
          obtain ⟨⟨rfl, rfl, -⟩, -, rfl⟩ := hv'
          obtain ⟨bv0, hb0, hr0⟩ := hat 0 x0 (by rw [hxr]; rfl)
          obtain ⟨a0, c0, rfl⟩ := slc_form hb0
          have e1 := hr0 1 _ rfl
          have e2 := hr0 2 _ rfl
          have e3 := hr0 3 _ rfl
          simp only [Nat.zero_mul, Nat.add_zero, Nat.zero_add] at e1 e2 e3
          have hgl := hlvs
          have f4 : wr.frozen? ⟨p, 4, none⟩ = false := by obtain ⟨_, _, _, hf, -⟩ := hlg2.open; exact hf 4
          obtain ⟨_, _, ⟨-, -, -, -, d4, -⟩, -⟩ := hlg2.open
          simp only [LogM.raw] at d4
          have hih : LogM.isHead (LogM.leavesOf ps) = (x0.at' == 0 && x0.of' == 0 && x0.bytes.length == 0) := by rw [hxr]; rfl
          obtain ⟨A, hA⟩ : ∃ A, x0.at' = A := ⟨_, rfl⟩
          obtain ⟨F, hF⟩ : ∃ F, x0.of' = F := ⟨_, rfl⟩
          obtain ⟨N, hNb⟩ : ∃ N, x0.bytes.length = N := ⟨_, rfl⟩
          rw [hA] at e1
          rw [hF] at e2
          rw [hNb] at e3
          rw [hA, hF, hNb] at hih
          have hsx := hlg2.setStep 4 (.bool false)
          have hlx := hlg2.set (m' := LogM.raw f n S) hL 4 (.bool false) (fun rv => rfl) rfl hlg2.wf
          have hxH : LogM.isHead (LogM.leavesOf ps) = false → Hid (Step (Only L) w o _ o2 ∧ LogAt _ o2 L p pd (LogM.ofPages f ps)) := fun hh =>
            hidden ⟨hst2.trans hsx, by rw [show LogM.ofPages f ps = LogM.raw f n S from by rw [hOfH.out, hh, hSH.out]; rfl]; exact hlx⟩
          have hti : (0 : Int) < (t : Int) := by omega
          have hni : (0 : Int) < (n : Int) := by omega
          have hihH := hidden hih
          clear hih hxr hA hF hNb hr0 hat hb0 g1 g2 g3 g4 g5 g6 hst hog hlv hlx hsx
          by_cases hA0 : A = 0
          · subst hA0
            by_cases hF0 : F = 0
            · subst hF0
              by_cases hN0 : N = 0
              · subst hN0
                have hih2 : LogM.isHead (LogM.leavesOf ps) = true := by rw [hihH.out]; rfl
                have hsx := hlg2.setStep 4 (.bool true)
                have hlx := hlg2.set (m' := { LogM.raw f n S with headed := true }) hL 4 (.bool true) (fun rv => rfl) rfl hlg2.wf
                have hlvx := hlvs.step hsx hN
                have hread := lread_any hL hlx (LogM.leavesOf ps) _ hlvx (by rw [hlT']; exact ht1) (by rw [hlT']; exact htn) hbndH.out rfl rfl
                have hstx := hst2.trans hsx
                have hO : Hid (({ ({ LogM.raw f n S with headed := true } : LogM) with records := (LogM.readAll (LogM.leavesOf ps)).2.2, end' := (LogM.readAll (LogM.leavesOf ps)).1 } : LogM) = LogM.ofPages f ps) := hidden (by
                  rw [hOfH.out, hih2, hSH.out]; rfl)
                have c4 : (wr.setCell ⟨p, 4, none⟩ (.bool true)).cell? ⟨p, 4, none⟩ = some (.bool true) := by
                  obtain ⟨_, _, ⟨-, -, -, -, q4, -⟩, -⟩ := hlx.open; exact q4
                have htc : (t : Int) ≤ (lc : Int) := by omega
                clear hxH hlg2 hst2 hlvs hgl hlx hsx hlvx hih2 hpg
                go_wp2_with fail
                refine hread.mono ?_; rintro e W6 ⟨v6, o6, rfl, hs6, rfl, hl6⟩
                have hl7 : LogAt W6 o6 L p pd (LogM.ofPages f ps) := by rw [← hO.out]; exact hl6
                have hx := hidden (And.intro (hstx.trans hs6) hl7)
                clear hread hl6 hl7 hs6 hstx
                go_wp2_with fail
                go_ret2
                exact ⟨_, o6, rfl, hx.out.1, fun h => absurd h hNS.out, fun _ => ⟨p, by omega, rfl, hx.out.2⟩⟩
              · have hz : ((N : Int) == 0) = false := by rw [beq_eq_false_iff_ne]; omega
                have hx := hxH (by rw [hihH.out]; simp [hN0])
                clear hxH hlg2 hst2 hlvs hgl hN0
                go_wp2_with fail
                go_ret2
                exact ⟨_, o2, rfl, hx.out.1, fun h => absurd h hNS.out, fun _ => ⟨p, by omega, rfl, hx.out.2⟩⟩
            · have hz : ((F : Int) == 0) = false := by rw [beq_eq_false_iff_ne]; omega
              have hx := hxH (by rw [hihH.out]; simp [hF0])
              clear hxH hlg2 hst2 hlvs hgl hF0
              go_wp2_with fail
              go_ret2
              exact ⟨_, o2, rfl, hx.out.1, fun h => absurd h hNS.out, fun _ => ⟨p, by omega, rfl, hx.out.2⟩⟩
          · have hz : ((A : Int) == 0) = false := by rw [beq_eq_false_iff_ne]; omega
            have hx := hxH (by rw [hihH.out]; simp [hA0])
            clear hxH hlg2 hst2 hlvs hgl hA0
            go_wp2_with fail
            go_ret2
            exact ⟨_, o2, rfl, hx.out.1, fun h => absurd h hNS.out, fun _ => ⟨p, by omega, rfl, hx.out.2⟩⟩
end
end Go.Proofs.YtfgggkheadfiaaaR
