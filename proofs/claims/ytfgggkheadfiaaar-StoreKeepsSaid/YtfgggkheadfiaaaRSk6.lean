/- Contract: log.Open. -/
import Derived.Lib.SlBytesConst
import Derived.Deep.AppendSrc
import Derived.Test.YtfgggkheadfiaaaRSk1
import Derived.Test.YtfgggkheadfiaaaRSk2
import Derived.Test.YtfgggkheadfiaaaRSk5
namespace Go.Proofs.YtfgggkheadfiaaaR
open Go Go.RowKit
attribute [local go_sem ↓] Go.wp_at_zero Go.wp_at_succ

theorem inf139 : (Try.prog.info? 139).map (fun i => (i.zero.map (fun z => z.cells.toList), i.size, i.bytes)) = some (some [.int .u64 0, .int .i64 0, .int .i64 0, .slice none 0 0], 4, 48) := by kernel_rfl
def lvCells : List LeafM → List Value → List Value
  | x :: ls, bv :: bvs => leafV x bv ++ lvCells ls bvs
  | _, _ => []
theorem lvCells_snoc (x : LeafM) (bv : Value) : ∀ (ls : List LeafM) (bvs : List Value), bvs.length = ls.length → lvCells (ls ++ [x]) (bvs ++ [bv]) = lvCells ls bvs ++ leafV x bv
  | [], [], _ => by simp [lvCells]
  | [], _ :: _, h => by simp at h
  | _ :: _, [], h => by simp at h
  | y :: ls, b :: bvs, h => by simp only [List.cons_append, lvCells, List.append_assoc]; rw [lvCells_snoc x bv ls bvs (by simpa using h)]
theorem lvCells_get : ∀ (ls : List LeafM) (bvs : List Value) (i : Nat) (x : LeafM) (bv : Value) (j : Nat) (v : Value), ls[i]? = some x → bvs[i]? = some bv → (leafV x bv)[j]? = some v → (lvCells ls bvs)[i * 4 + j]? = some v
  | [], _, _, _, _, _, _, h, _, _ => by simp at h
  | _ :: _, [], _, _, _, _, _, _, h, _ => by simp at h
  | y :: ls, b :: bvs, 0, x, bv, j, v, h1, h2, h3 => by
    simp only [List.getElem?_cons_zero, Option.some.injEq] at h1 h2
    subst h1; subst h2
    simp only [lvCells, Nat.zero_mul, Nat.zero_add]
    rw [List.getElem?_append_left (List.getElem?_eq_some_iff.1 h3).1]; exact h3
  | y :: ls, b :: bvs, i + 1, x, bv, j, v, h1, h2, h3 => by
    simp only [List.getElem?_cons_succ] at h1 h2
    simp only [lvCells]
    rw [List.getElem?_append_right (by simp [leafV]; omega)]
    rw [show (i + 1) * 4 + j - (leafV y b).length = i * 4 + j from by simp [leafV]; omega]
    exact lvCells_get ls bvs i x bv j v h1 h2 h3
/-- A row of leaves of its own; its block is the object X's. -/
def LvRow (W : World) (o : Own) (X base : Nat) (v : Value) (ls : List LeafM) : Prop :=
  ∃ bvs, W.ownsRow base 139 4 v ls.length (lvCells ls bvs) ∧ RowsB W o bvs (ls.map LeafM.bytes) ∧ ∀ k, v.ownBlock = some k → o k = (X, 2)
theorem LvRow.nil (W : World) (o : Own) (X base : Nat) : LvRow W o X base (.slice none 0 0) [] :=
  ⟨[], by simpa [lvCells] using World.ownsRow_nil _ _ _ _, RowsB.nil _ _, fun k hk => by simp [Value.ownBlock] at hk⟩
theorem LvRow.form {W : World} {o : Own} {X base : Nat} {v : Value} {ls : List LeafM} (h : LvRow W o X base v ls) : ∃ a c, v = .slice a ls.length c := by
  obtain ⟨bvs, h1, -⟩ := h; exact own_form h1
theorem LvRow.step {W W' : World} {o o' : Own} {X base : Nat} {v : Value} {ls : List LeafM} {T : Nat → Prop} (h : LvRow W o X base v ls) (s : Step T W o W' o') (hX : ¬ T X) (h0 : ¬ T 0) : LvRow W' o' X base v ls := by
  obtain ⟨bvs, h1, h2, h3⟩ := h
  refine ⟨bvs, ⟨h1.1, ?_⟩, h2.step s h0, fun k hk => ?_⟩
  · rcases h1.2 with hn | ⟨g, cap, cur, hv, hb, hc, rest⟩
    · exact .inl hn
    · refine .inr ⟨g, cap, cur, hv, hb, ?_, rest⟩
      rw [s.block g (lt_of_block hc) (by rw [h3 g (by rw [hv]; rfl)]; exact hX)]; exact hc
  · rw [s.own k (h1.lt k hk).2]; exact h3 k hk
/-- A cell of another block is written. -/
theorem LvRow.set {W : World} {o : Own} {X base : Nat} {v : Value} {ls : List LeafM} (h : LvRow W o X base v ls) (hX : X ≠ 0) (a : Addr) (u : Value) (ha : o a.block ≠ (X, 2)) (ha1 : (o a.block).1 = X) : LvRow (W.setCell a u) o X base v ls := by
  obtain ⟨bvs, h1, h2, h3⟩ := h
  have hs := (Step.refl (Only X) W o).setCell (a := a) u (.inl ha1)
  refine ⟨bvs, ⟨h1.1, ?_⟩, h2.step hs (fun h => hX h.symm), h3⟩
  rcases h1.2 with hn | ⟨g, cap, cur, hv, hb, hc, rest⟩
  · exact .inl hn
  · refine .inr ⟨g, cap, cur, hv, hb, ?_, rest⟩
    rw [Below.heap_setCell _ _ _ _ (by rintro rfl; exact ha (h3 _ (by rw [hv]; rfl)))]; exact hc
/-- A leaf is appended. -/
theorem LvRow.append {W : World} {o : Own} {X base : Nat} {v : Value} {ls : List LeafM} (h : LvRow W o X base v ls) (hbase : base ≤ W.heap.size) (hX : X ≠ 0) (hn : ls.length ≤ 100000) {nb : Nat} {x : LeafM} {bv : Value}
    (hnb : W.heap[nb]? = some (.cells (leafV x bv).toArray 139 (0, 0))) (hb : Bytes W o bv x.bytes) :
    ∃ v' w' o', (Builtin.append_ #[136, 136] 136 #[v, .slice (some ⟨nb, 0, none⟩) 1 1]).run Try.prog W = .ok v' w' ∧ LvRow w' o' X base v' (ls ++ [x]) ∧ Step (Only X) W o w' o' ∧ (∀ k, v.ownBlock ≠ some k → k < W.heap.size → w'.heap[k]? = W.heap[k]?) := by
  obtain ⟨bvs, h1, h2, h3⟩ := h
  obtain ⟨g, cap, w', hrun, hown, hgrow, hat, hlt⟩ := run_append_row (P := Try.prog) W 136 136 139 Try.underlying136 inf139 rfl (by omega) hbase v ls.length _ h1 nb 0 1 1 (leafV x bv) rfl (range_whole hnb)
    (by have := one_leafV hb; intro u hu; exact List.all_eq_true.1 this u hu) (by omega) (by omega) (by omega)
  have hgt : o g = (X, 2) ∨ W.heap.size ≤ g := by
    rcases hat with hat | hat
    · exact .inl (h3 g hat)
    · exact .inr (by omega)
  have hs : Step (Only X) W o w' (tagAt o g (X, 2)) := (Step.refl (Only X) W o).grown hgrow (fun k hk => .inl (by rw [h3 k hk]; rfl)) g (X, 2) hgt
  refine ⟨_, w', _, hrun, ⟨bvs ++ [bv], ?_, ?_, ?_⟩, hs, fun k hk hlt => hgrow.block k hlt (fun h => hk h.symm)⟩
  · rw [lvCells_snoc _ _ _ _ (by have := h2.1; simpa using this)]; simpa using hown
  · rw [List.map_append]
    exact (h2.step hs (fun h => hX h.symm)).snoc (hb.step hs (fun h => hX h.symm))
  · intro k hk
    simp only [Value.ownBlock, Option.some.injEq] at hk
    subst hk; exact tagAt_same _ _ _
/-- The row, cut at m, read as leaves; its block belongs to nobody from now on. -/
theorem LvRow.lvs {W : World} {o : Own} {X base : Nat} {v : Value} {ls : List LeafM} (h : LvRow W o X base v ls) (hX : X ≠ 0) (m : Nat) (h1m : 1 ≤ m) (hm : m ≤ ls.length) :
    ∃ g cap, v = .slice (some ⟨g, 0, none⟩) ls.length cap ∧ ls.length ≤ cap ∧ cap ≤ maxLen ∧ base ≤ g ∧ o g = (X, 2) ∧ (∃ cs, W.heap[g]? = some (.cells cs 139 (0, 0))) ∧ LvsAt W (tagAt o g (0, 0)) (.slice (some ⟨g, 0, none⟩) m cap) (ls.take m) := by
  obtain ⟨bvs, h1, h2, h3⟩ := h
  rcases h1.2 with ⟨_, h0⟩ | ⟨g, cap, cur, rfl, hb, hc, h4, h5, h6, h7⟩
  · omega
  · have hgl := lt_of_block hc
    have hne : ∀ (k : Nat), (o k).1 = 0 → k ≠ g := fun k hk e => by rw [e, h3 g rfl] at hk; exact hX hk
    have hlen : bvs.length = ls.length := by have := h2.1; simpa using this
    refine ⟨g, cap, rfl, h4, h5, hb, h3 g rfl, ⟨cur, hc⟩, g, 0, cap, bvs.take m, by rw [List.length_take, Nat.min_eq_left hm], by rw [List.length_take]; omega, h5, by rw [tagAt_same], hgl, ?_, ?_⟩
    · have hs : Step Nobody W o W (tagAt o g (0, 0)) → True := fun _ => trivial
      refine ⟨by simp [hlen], fun i v l hv hl => ?_⟩
      have hv' : bvs[i]? = some v := by rw [List.getElem?_take] at hv; split at hv; exact hv; cases hv
      have hl' : (ls.map LeafM.bytes)[i]? = some l := by rw [List.map_take, List.getElem?_take] at hl; split at hl; exact hl; cases hl
      rcases h2.2 i v l hv' hl' with hq | ⟨b, off, cap', q1, q2, q3, q4, q5, q6⟩
      · exact .inl hq
      · exact .inr ⟨b, off, cap', q1, q2, q3, by rw [tagAt_other _ _ (hne b q4)]; exact q4, q5, q6⟩
    · intro i x bv hx hbv j u hu
      have hx' : ls[i]? = some x := by rw [List.getElem?_take] at hx; split at hx; exact hx; cases hx
      have hbv' : bvs[i]? = some bv := by rw [List.getElem?_take] at hbv; split at hbv; exact hbv; cases hbv
      have h8 := lvCells_get ls bvs i x bv j u hx' hbv' hu
      rw [← h7, List.getElem?_take] at h8
      split at h8
      · rw [Nat.zero_add]
        rw [cell_of_block (cs := cur.toList) (E := 139) (fr := (0, 0)) (by simpa using hc)]; exact h8
      · cases h8
section
variable {w : World} {o : Own} {L D pd : Nat} {d : DiskM}
set_option maxRecDepth 100000 in
theorem open_dead (h : DiskAt w o D pd d) (hd : d.dead = true) (first n : Int) :
    Calls Try.prog 38 #[.pointer (some ⟨pd, 0, none⟩), .int .i64 first, .int .i64 n] w fun e w' => e = .returned (.tuple #[.pointer none, .int .i64 9]) ∧ w = w' := by
  have hdd := dead_any h
  rw [hd] at hdd
  clear hd
  go_enter Try.func38, Try.ntmps38
  go_wp2_with fail
  refine hdd.mono ?_; rintro e w' ⟨rfl, rfl⟩
  go_wp2_with fail
  go_ret2
  exact ⟨rfl, rfl⟩

def LogM.raw (f n : Nat) (S : BitVec 64) : LogM := ⟨f, n, S, false, 1, [], false⟩
theorem LogM.newest_snoc (ps : List (List UInt8)) (k : Nat) (p : List UInt8) (h : ps[k]? = some p) : LogM.newest (ps.take (k + 1)) = LogM.umax (LogM.umax (LogM.newest (ps.take k)) (num (p.take 8))) (num (p.drop 504)) := by
  rw [List.take_add_one, h]
  simp only [LogM.newest, Option.toList_some, List.foldl_append, List.foldl_cons, List.foldl_nil]
theorem takeWhile_at {α : Type} (p : α → Bool) (l : List α) (k : Nat) (x : α) (h : l[k]? = some x) (hk : k ≤ (l.takeWhile p).length) : p x = true ↔ k < (l.takeWhile p).length := by
  constructor
  · intro hx
    rw [LogM.lt_takeWhile]
    intro i hi
    by_cases hik : i = k
    · subst hik; exact ⟨x, h, hx⟩
    · exact (LogM.lt_takeWhile p l i).1 (by omega) i (Nat.le_refl _)
  · intro hl
    obtain ⟨y, hy, hp⟩ := (LogM.lt_takeWhile p l k).1 hl k (Nat.le_refl _)
    rw [h] at hy; cases hy; exact hp

/-- What Open answers on a part whose pages are ps. -/
def Opened (w w' : World) (o' : Own) (L pd f : Nat) (ps : List (List UInt8)) (v : Value) : Prop :=
  (LogM.newest ps = BitVec.allOnes 64 → v = .tuple #[.pointer none, .int .i64 2]) ∧
  (LogM.newest ps ≠ BitVec.allOnes 64 → ∃ p, w.heap.size ≤ p ∧ v = .tuple #[.pointer (some ⟨p, 0, none⟩), .int .i64 0] ∧ LogAt w' o' L p pd (LogM.ofPages f ps))
theorem zs139 : (Try.prog.info? 139).map (fun i => (i.zero.map (fun z => z.cells.toList), i.size)) = some (some [.int .u64 0, .int .i64 0, .int .i64 0, .slice none 0 0], 4) := by kernel_rfl
theorem buildSlice136 (w : World) (x : LeafM) (bv : Value) (_h1 : (leafV x bv).all (·.oneCell') = true) :
    (Instr.buildSlice 136 1 #[(0, .agg (leafV x bv).toArray)]).run Try.prog w = .ok (.slice (some ⟨w.heap.size, 0, none⟩) 1 1) (w.alloc (.cells (leafV x bv).toArray 139)) :=
  run_buildSlice_one w 136 139 _ (.agg (leafV x bv).toArray) (leafV x bv) Try.underlying136 zs139 rfl (by simp [leafV]) (by simp [leafV]) rfl
theorem umax3_int (S A B : BitVec 64) : (if (if S.toNat < A.toNat then (A.toNat : Int) else (S.toNat : Int)) < (B.toNat : Int) then (B.toNat : Int) else if S.toNat < A.toNat then (A.toNat : Int) else (S.toNat : Int)) = ((LogM.umax (LogM.umax S A) B).toNat : Int) := by
  rw [LogM.umax_toNat, LogM.umax_toNat]
  split <;> split <;> omega
set_option maxRecDepth 100000 in
set_option maxHeartbeats 6400000 in
theorem open_yes (hL : L ≠ 0) (_hD : D ≠ 0) (hLD : L ≠ D) (h : DiskAt w o D pd d) (hrow : d.row.length ≤ 1000000) (hd : d.dead = false) (f n : Nat) (h2n : 2 ≤ n) (hn : n ≤ 2000) (hf : f + n ≤ d.pages.length) :
    Calls Try.prog 38 #[.pointer (some ⟨pd, 0, none⟩), .int .i64 (f : Int), .int .i64 (n : Int)] w (Ret (Only L) w o fun v w' o' =>
      Opened w w' o' L pd f (LogM.seenPages d f n) v) := by
  have hN : ¬ Only L 0 := fun h => hL h.symm
  have hND : ¬ Only L D := fun h => hLD h.symm
  have hdd := dead_any h
  rw [hd] at hdd
  have hsz := size_any h
  obtain ⟨ps, hps⟩ : ∃ ps, LogM.seenPages d f n = ps := ⟨_, rfl⟩
  have hpl : ps.length = n := by rw [← hps]; exact LogM.length_seenPages _ _ _
  have hpg : ∀ k, k < n → ps[k]? = some (d.seen (f + k)) := fun k hk => by rw [← hps]; exact LogM.get_seenPages _ _ _ _ hk
  have hwf := h.wf
  have hpl4 : d.pages.length ≤ 4096 := hwf.2.1
  have hasked : ∀ k, k < n → d.asked ((f + k : Nat) : Int) 512 = 0 := fun k hk => by
    unfold DiskM.asked; rw [hd, if_neg (by simp), if_neg (by omega)]
  rw [hps]
  have hA1 : ¬ (n : Int) < 2 := by omega
  have hA2 : ¬ (f : Int) < 0 := by omega
  have hA3 : ¬ (d.pages.length : Int) - (n : Int) < (f : Int) := by omega
  have hA4 : IntKind.i64.wrap ((d.pages.length : Int) - (n : Int)) = (d.pages.length : Int) - (n : Int) := wrap_i64 (by omega) (by omega)
  -- the log's own struct
  have hbox : LogAt (w.alloc (.cells ((LogM.raw f n 0).cells pd (.slice none 0 0)).toArray 135)) (tagAt o w.heap.size (L, 0)) L w.heap.size pd (LogM.raw f n 0) :=
    ⟨.slice none 0 0, [], heap_alloc_new w _, World.ownsRow_nil _ _ _ _, RowsT.nil _ _, tagAt_same _ _ _, fun k hk => by simp [Value.ownBlock] at hk,
      ⟨by show f ≤ 4096; omega, h2n, hn, Nat.le_refl _, by show 1 ≤ n; omega, by show 0 + 1 ≤ 1; omega, fun r hr => by simp [LogM.raw] at hr⟩⟩
  have hsb : Step (Only L) w o _ _ := (Step.refl (Only L) w o).alloc (.cells ((LogM.raw f n 0).cells pd (.slice none 0 0)).toArray 135) (L, 0)
  obtain ⟨t, ht⟩ : ∃ t, (ps.takeWhile fun p => (saidL p).2).length = t := ⟨_, rfl⟩
  have htn : t ≤ n := by rw [← ht, ← hpl]; exact List.Sublist.length_le (List.takeWhile_sublist _)
  have htk : ∀ k, k < n → k ≤ t → ((saidL (d.seen (f + k))).2 = true ↔ k < t) := fun k hk hkt => by
    rw [← ht] at hkt ⊢
    exact takeWhile_at _ ps k _ (hpg k hk) hkt
  have hsn : ∀ k, k < n → LogM.newest (ps.take (k + 1)) = LogM.umax (LogM.umax (LogM.newest (ps.take k)) (num ((d.seen (f + k)).take 8))) (num ((d.seen (f + k)).drop 504)) := fun k hk => LogM.newest_snoc ps k _ (hpg k hk)
  have htk1 : ∀ k, k < n → (ps.take (k + 1)) = ps.take k ++ [d.seen (f + k)] := fun k hk => by rw [List.take_add_one, hpg k hk]; rfl
  have hpsH := hidden hps
  have hplH := hidden hpl
  have hpgH := hidden hpg
  have haskedH := hidden hasked
  have htkH := hidden htk
  have hsnH := hidden hsn
  have htk1H := hidden htk1
  have htH := hidden ht
  have hh := hidden h
  clear hps hpl hpg hasked htk hsn htk1 ht hwf h
  go_enter Try.func38, Try.ntmps38
  go_wp2_with fail
  refine hdd.mono ?_; rintro e w' ⟨rfl, rfl⟩
  go_wp2_with fail
  refine hsz.mono ?_; rintro e w' ⟨rfl, rfl⟩
  clear hdd hsz
  go_wp2_with fail
  clear hA1 hA2 hA3 hA4
  have hc0 : (LogM.raw f n 0).cells pd (.slice none 0 0) = [.pointer (some ⟨pd, 0, none⟩), .int .i64 (f : Int), .int .i64 (n : Int), .int .u64 0, .bool false, .int .i64 1, .slice none 0 0, .bool false] := rfl
  rw [hc0] at hbox hsb
  clear hc0
  obtain ⟨p, hp⟩ : ∃ p, w.heap.size = p := ⟨_, rfl⟩
  rw [hp] at hbox hsb ⊢
  go_loopw [9, 10, 44] (fun lv en i wr => ∃ (k E : Nat) (o' : Own), k ≤ n ∧ i = .int .i64 k ∧ en = .int .i64 (E : Int) ∧ Hid (E = if t < k then t else n) ∧ Step (Only L) w o wr o' ∧ LogAt wr o' L p pd (LogM.raw f n (LogM.newest (ps.take k))) ∧ LvRow wr o' L p lv ((ps.take k).map fun p => (saidL p).1))
    (fun _ _ i _ => n - (intOf i).toNat)
  case atStart => exact ⟨0, n, _, Nat.zero_le _, rfl, rfl, hidden (by simp), hsb, hbox, LvRow.nil _ _ _ _⟩
  case round =>
    obtain ⟨k, E, o1, hk, rfl, rfl, hE, hst, hlg, hlv⟩ := hrel
    by_cases hlt : k < n
    · have hd1 := hh.out.step hst hND
      have hrd := read_yes hd1 ((f + k : Nat) : Int) (haskedH.out k hlt) hrow
      have hlti : (k : Int) < (n : Int) := by omega
      rw [show (((f + k : Nat) : Int)).toNat = f + k from by omega, show ((f + k : Nat) : Int) = (f : Int) + (k : Int) from by omega] at hrd
      have hplen : (d.seen (f + k)).length = 512 := by
        obtain ⟨hw1, hw2, hw3, hw4, -, -⟩ := hh.out.wf
        have : ∀ (row : List (Nat × List UInt8)) (q : List UInt8), q.length = 512 → (∀ x ∈ row, x.2.length = 512) → (DiskM.seenIn (f + k) q row).length = 512 := by
          intro row
          induction row with
          | nil => intro q hq _; exact hq
          | cons x r ih =>
            intro q hq hx
            refine ih _ ?_ (fun y hy => hx y (by simp [hy]))
            dsimp only
            split
            · exact hx x (by simp)
            · exact hq
        exact this _ _ (DiskM.getD_wf hw3 (by omega)) (fun x hx => (hw4 x hx).2)
      have htk := htkH.out k hlt
      have hsn := hsnH.out k hlt
      have htk1 := htk1H.out k hlt
      obtain ⟨P, hP⟩ : ∃ P, d.seen (f + k) = P := ⟨_, rfl⟩
      rw [hP] at hrd hplen htk hsn htk1
      obtain ⟨S, hS⟩ : ∃ S, LogM.newest (ps.take k) = S := ⟨_, rfl⟩
      rw [hS] at hlg hsn
      obtain ⟨ls, hls⟩ : ∃ ls, ((ps.take k).map fun p => (saidL p).1) = ls := ⟨_, rfl⟩
      have hlsn : ((ps.take (k + 1)).map fun p => (saidL p).1) = ls ++ [(saidL P).1] := by rw [htk1, List.map_append, hls]; rfl
      have hlsl : ls.length = k := by rw [← hls, List.length_map, List.length_take, hplH.out]; omega
      rw [hls] at hlv
      obtain ⟨la, lc, rfl⟩ := hlv.form
      rw [hlsl] at hlv ⊢
      have htkH := hidden htk
      have hsnH := hidden hsn
      have hlsnH := hidden hlsn
      have hlslH := hidden hlsl
      clear htk hsn hlsn hls hlsl htk1 hS hP hd1
      go_wp2_with fail
      refine hrd.mono ?_; rintro e W1 ⟨v1, o2, rfl, hs1, b, rfl, hb1, hh1, ho1⟩
      have hst1 := hst.trans (hs1.only L)
      have hlg1 := hlg.step hs1 (fun h => h) (fun h => h)
      have hlv1 := hlv.step hs1 (fun h => h) (fun h => h)
      have hpb : Bytes W1 o2 (.slice (some ⟨b, 0, none⟩) 512 512) P := .inr ⟨b, 0, 512, by rw [hplen], by omega, by simp [maxLen], by rw [ho1], lt_of_block hh1, range_whole hh1⟩
      have hdr : Step Nobody W1 o2 W1.drew o2 := (Step.refl _ _ _).drew
      have hst2 := hst1.trans (hdr.only L)
      have hlg2 := hlg1.step hdr (fun h => h) (fun h => h)
      have hlv2 := hlv1.step hdr (fun h => h) (fun h => h)
      have hpb2 := hpb.step hdr (fun h => h)
      have hq1 := hpb2.part 0 8 (by omega) (by omega)
      have hq2 := hpb2.part 504 512 (by omega) (by omega)
      simp only [List.drop_zero, Nat.zero_add, Nat.sub_zero, Nat.reduceSub] at hq1 hq2
      rw [List.take_of_length_le (i := 8) (l := P.drop 504) (by simp; omega)] at hq2
      have hheld := hlg2.held
      obtain ⟨-, -, -, d3, -, -, -⟩ := hheld
      simp only [LogM.raw] at d3
      clear hrd hst hlg hlv hs1 hst1 hlg1 hlv1 hpb hdr
      go_wp2_with fail
      have f3 : W1.drew.frozen? ⟨p, 3, none⟩ = false := by obtain ⟨_, _, _, hf, -⟩ := hlg2.open; exact hf 3
      have hn1 := lnumber_any hq1 (by simp; omega)
      have hn2 := lnumber_any hq2 (by simp; omega)
      clear hq1 hq2
      obtain ⟨A, hA⟩ : ∃ A, num (P.take 8) = A := ⟨_, rfl⟩
      obtain ⟨B, hB⟩ : ∃ B, num (P.drop 504) = B := ⟨_, rfl⟩
      rw [hA] at hn1
      rw [hB] at hn2
      have hsn := hsnH.out
      rw [hA, hB] at hsn
      have hsnH := hidden hsn
      clear hsn hA hB
      refine wp_region_g (fun i w' => i < 17 ∨ 18 ≤ i → w'.cell? ⟨p, 3, none⟩ = some (.int .u64 (S.toNat : Int))) (by kernel_rfl) ?_
      refine wpAnyG_take (i := 0) (St := (fun _ => True)) (v := ?_) rfl (by kernel_rfl) (by kernel_rfl) (by kernel_rfl) (fun _ _ _ _ => trivial) (fun _ _ _ h => h) (Or.inl ⟨by rfl, ?_⟩) (trivial) ?_
      rotate_left
      · intro w hSw; ((try dsimp only at hSw); go_simp; (try with_reducible rfl))
      simp only [Act.put, List.setIfInBounds_toArray, List.set_cons_zero, List.set_cons_succ]
      refine wpAnyG_take (i := 1) (St := (fun _ => True)) (v := ?_) rfl (by kernel_rfl) (by kernel_rfl) (by kernel_rfl) (fun _ _ _ _ => trivial) (fun _ _ _ h => h) (Or.inl ⟨by rfl, ?_⟩) (trivial) ?_
      rotate_left
      · intro w hSw; ((try dsimp only at hSw); go_simp; (try with_reducible rfl))
      simp only [Act.put, List.setIfInBounds_toArray, List.set_cons_zero, List.set_cons_succ]
      refine wpAnyG_take (i := 2) (St := (fun _ => True)) (v := ?_) rfl (by kernel_rfl) (by kernel_rfl) (by kernel_rfl) (fun _ _ _ _ => trivial) (fun _ _ _ h => h) (Or.inl ⟨by rfl, ?_⟩) (trivial) ?_
      rotate_left
      · intro w hSw; ((try dsimp only at hSw); go_simp; (try with_reducible rfl))
      simp only [Act.put, List.setIfInBounds_toArray, List.set_cons_zero, List.set_cons_succ]
      refine wpAnyG_take (i := 3) (St := (fun _ => True)) (v := ?_) rfl (by kernel_rfl) (by kernel_rfl) (by kernel_rfl) (fun _ _ _ _ => trivial) (fun _ _ _ h => h) (Or.inl ⟨by rfl, ?_⟩) (trivial) ?_
      rotate_left
      · intro w hSw; ((try dsimp only at hSw); go_simp; (try with_reducible rfl))
      simp only [Act.put, List.setIfInBounds_toArray, List.set_cons_zero, List.set_cons_succ]
      refine wpAnyG_take (i := 4) (St := (fun w' => w'.cell? ⟨p, 3, none⟩ = some (.int .u64 (S.toNat : Int)))) (v := ?_) rfl (by kernel_rfl) (by kernel_rfl) (by kernel_rfl) (fun j w hd h => h (dep_out (lo := 17) (hi := 18) (by kernel_rfl) j hd)) (fun _ _ _ h => h) (Or.inl ⟨by rfl, ?_⟩) (d3) ?_
      rotate_left
      · intro w hSw; ((try dsimp only at hSw); go_simp; (try with_reducible rfl))
      simp only [Act.put, List.setIfInBounds_toArray, List.set_cons_zero, List.set_cons_succ]
      refine wpAnyG_take (i := 5) (St := (fun _ => True)) (v := ?_) rfl (by kernel_rfl) (by kernel_rfl) (by kernel_rfl) (fun _ _ _ _ => trivial) (fun _ _ _ h => h) (Or.inl ⟨by rfl, ?_⟩) (trivial) ?_
      rotate_left
      · intro w hSw; ((try dsimp only at hSw); go_simp; (try with_reducible rfl))
      simp only [Act.put, List.setIfInBounds_toArray, List.set_cons_zero, List.set_cons_succ]
      refine wpAnyG_take (i := 6) (St := (fun _ => True)) (v := ?_) rfl (by kernel_rfl) (by kernel_rfl) (by kernel_rfl) (fun _ _ _ _ => trivial) (fun _ _ _ h => h) (Or.inl ⟨by rfl, ?_⟩) (trivial) ?_
      rotate_left
      · intro w hSw; ((try dsimp only at hSw); go_simp; (try with_reducible rfl))
      simp only [Act.put, List.setIfInBounds_toArray, List.set_cons_zero, List.set_cons_succ]
      refine wpAnyG_take (i := 8) (St := (fun _ => True)) (v := ?_) rfl (by kernel_rfl) (by kernel_rfl) (by kernel_rfl) (fun _ _ _ _ => trivial) (fun _ _ _ h => h) (Or.inl ⟨by rfl, ?_⟩) (trivial) ?_
      rotate_left
      · intro w hSw; ((try dsimp only at hSw); go_simp; (try with_reducible rfl))
      simp only [Act.put, List.setIfInBounds_toArray, List.set_cons_zero, List.set_cons_succ]
      refine wpAnyG_take (i := 9) (St := (fun _ => True)) (v := ?_) rfl (by kernel_rfl) (by kernel_rfl) (by kernel_rfl) (fun _ _ _ _ => trivial) (fun _ _ _ h => h) (Or.inl ⟨by rfl, ?_⟩) (trivial) ?_
      rotate_left
      · intro w hSw; ((try dsimp only at hSw); go_simp; (try with_reducible rfl))
      simp only [Act.put, List.setIfInBounds_toArray, List.set_cons_zero, List.set_cons_succ]
      refine wpAnyG_take (i := 10) (St := (fun _ => True)) (v := ?_) rfl (by kernel_rfl) (by kernel_rfl) (by kernel_rfl) (fun _ _ _ _ => trivial) (fun _ _ _ h => h) (Or.inl ⟨by rfl, ?_⟩) (trivial) ?_
      rotate_left
      · intro w hSw; ((try dsimp only at hSw); go_simp; (try with_reducible rfl))
      simp only [Act.put, List.setIfInBounds_toArray, List.set_cons_zero, List.set_cons_succ]
      refine wpAnyG_take (i := 11) (St := (fun _ => True)) (v := ?_) rfl (by kernel_rfl) (by kernel_rfl) (by kernel_rfl) (fun _ _ _ _ => trivial) (fun _ _ _ h => h) (Or.inl ⟨by rfl, ?_⟩) (trivial) ?_
      rotate_left
      · intro w hSw; ((try dsimp only at hSw); go_simp; (try with_reducible rfl))
      simp only [Act.put, List.setIfInBounds_toArray, List.set_cons_zero, List.set_cons_succ]
      rw [wrap_i64 (n := 504) (by omega) (by omega)]
      refine wpAnyG_take (i := 12) (St := (fun _ => True)) (v := ?_) rfl (by kernel_rfl) (by kernel_rfl) (by kernel_rfl) (fun _ _ _ _ => trivial) (fun _ _ _ h => h) (Or.inl ⟨by rfl, ?_⟩) (trivial) ?_
      rotate_left
      · intro w hSw; ((try dsimp only at hSw); go_simp; (try with_reducible rfl))
      simp only [Act.put, List.setIfInBounds_toArray, List.set_cons_zero, List.set_cons_succ]
      refine wpAnyG_one (i := 7) rfl (by kernel_rfl) ?_
      go_wp2_with fail
      refine hn1.mono ?_; rintro e w' ⟨rfl, rfl⟩
      go_wp2_with fail
      refine ⟨.inl trivial, ?_⟩
      refine wpAnyG_one (i := 13) rfl (by kernel_rfl) ?_
      go_wp2_with fail
      refine hn2.mono ?_; rintro e w' ⟨rfl, rfl⟩
      go_wp2_with fail
      refine ⟨.inl trivial, ?_⟩
      refine wpAnyG_take (i := 14) (St := (fun _ => True)) (v := .int .u64 ((LogM.umax (LogM.umax S A) B).toNat : Int)) rfl (by kernel_rfl) (by kernel_rfl) (by kernel_rfl) (fun _ _ _ _ => trivial) (fun _ _ _ h => h) (Or.inl ⟨by rfl, ?_⟩) (trivial) ?_
      · intro w hSw; (try dsimp only at hSw); go_simp; exact umax3_int S A B
      simp only [Act.put, List.setIfInBounds_toArray, List.set_cons_zero, List.set_cons_succ]
      refine wpAnyG_take (i := 15) (St := (fun _ => True)) (v := ?_) rfl (by kernel_rfl) (by kernel_rfl) (by kernel_rfl) (fun _ _ _ _ => trivial) (fun _ _ _ h => h) (Or.inl ⟨by rfl, ?_⟩) (trivial) ?_
      rotate_left
      · intro w hSw; ((try dsimp only at hSw); go_simp; (try with_reducible rfl))
      simp only [Act.put, List.setIfInBounds_toArray, List.set_cons_zero, List.set_cons_succ]
      refine wpAnyG_take (i := 16) (St := (fun _ => True)) (v := ?_) rfl (by kernel_rfl) (by kernel_rfl) (by kernel_rfl) (fun _ _ _ _ => trivial) (fun _ _ _ h => h) (Or.inl ⟨by rfl, ?_⟩) (trivial) ?_
      rotate_left
      · intro w hSw; ((try dsimp only at hSw); go_simp; (try with_reducible rfl))
      simp only [Act.put, List.setIfInBounds_toArray, List.set_cons_zero, List.set_cons_succ]
      refine wpAnyG_one (i := 17) rfl (by kernel_rfl) ?_
      go_wp2_with fail
      refine ⟨.inr (fun h => by rcases h with h | h <;> omega), ?_⟩
      refine wpAnyG_done (by kernel_rfl) ?_ _
      clear hn1 hn2
      obtain ⟨M, hM⟩ : ∃ M, LogM.umax (LogM.umax S A) B = M := ⟨_, rfl⟩
      rw [hM]
      have hWc : (W1.setCell ⟨p, 3, none⟩ (.int .u64 (M.toNat : Int))).drew = W1.drew.setCell ⟨p, 3, none⟩ (.int .u64 (M.toNat : Int)) := rfl
      rw [hWc]
      have hop : o2 p = (L, 0) := by obtain ⟨_, _, _, _, _, h, _⟩ := hlg2; exact h
      have hse := hlg2.setStep 3 (.int .u64 (M.toNat : Int))
      have hlg3 := hlg2.set (m' := LogM.raw f n M) hL 3 (.int .u64 (M.toNat : Int)) (fun rv => rfl) rfl hlg2.wf
      have hst3 := hst2.trans hse
      have hlv3 := hlv2.set hL ⟨p, 3, none⟩ (.int .u64 (M.toNat : Int)) (by rw [hop]; simp) (by rw [hop])
      have hpb3 := hpb2.step hse hN
      have hsnM : Hid (LogM.newest (ps.take (k + 1)) = M) := hidden (by rw [hsnH.out, hM])
      clear hM hWc hse hlg2 hst2 hlv2 hpb2 d3 f3 hsnH hh1 hb1 ho1
      generalize W1.drew.setCell ⟨p, 3, none⟩ (.int .u64 (M.toNat : Int)) = W2 at *
      have hsd := said_any hpb3 hplen
      obtain ⟨x, okb, hx⟩ : ∃ x okb, saidL P = (x, okb) := ⟨_, _, rfl⟩
      rw [hx] at hsd
      have hxH := hidden hx
      clear hx hpb3
      go_wp2_with fail
      refine hsd.mono ?_; rintro e W3 ⟨v3, o3, rfl, hs3, bv, rfl, hbv⟩
      have hst4 := hst3.trans (hs3.only L)
      have hlg4 := hlg3.step hs3 (fun h => h) (fun h => h)
      have hlv4 := hlv3.step hs3 (fun h => h) (fun h => h)
      have hal := hidden (run_alloc_zero (P := Try.prog) W3 139 _ zc139)
      have hsw := setCells_alloc_whole W3 #[.int .u64 0, .int .i64 0, .int .i64 0, .slice none 0 0] 139 (leafV x bv) rfl
      obtain ⟨hso, -⟩ := run_store_agg (P := Try.prog) (ty := 139) (vs := leafV x bv) (heap_alloc_new W3 (.cells [.int .u64 0, .int .i64 0, .int .i64 0, .slice none 0 0].toArray 139)) rfl (by kernel_rfl) (one_leafV hbv)
      rw [hsw] at hso
      have hsoH := hidden hso
      have hsa := (Step.refl Nobody W3 o3).alloc (.cells (leafV x bv).toArray 139) (0, 0)
      have hxb : (W3.alloc (.cells (leafV x bv).toArray 139)).heap[W3.heap.size]? = some (.cells (leafV x bv).toArray 139 (0, 0)) := heap_alloc_new W3 _
      have hst5 := hst4.trans (hsa.only L)
      have hlg5 := hlg4.step hsa (fun h => h) (fun h => h)
      have hlv5 := hlv4.step hsa (fun h => h) (fun h => h)
      have hbv5 := hbv.step hsa (fun h => h)
      clear hsw hso hst4 hst3 hlg4 hlg3 hlv4 hlv3 hs3 hsd hbv
      have hone := one_leafV hbv5
      have hW4 : ∃ W4, W3.alloc (.cells (leafV x bv).toArray 139) = W4 := ⟨_, rfl⟩
      obtain ⟨W4, hW4⟩ := hW4
      have hld := hidden (load139 (range_whole (w := W4) (b := W3.heap.size) (cs := leafV x bv) (by rw [← hW4]; exact hxb)))
      have hbs := hidden (buildSlice136 W4 x bv hone)
      rw [hW4] at hsoH hst5 hlg5 hlv5 hbv5 hxb
      generalize tagAt o3 W3.heap.size (0, 0) = o4 at *
      -- the row grows
      have hsA := (Step.refl Nobody W4 o4).alloc (.cells (leafV x bv).toArray 139) (0, 0)
      have hst6 := hst5.trans (hsA.only L)
      have hlg6 := hlg5.step hsA (fun h => h) (fun h => h)
      have hlv6 := hlv5.step hsA (fun h => h) (fun h => h)
      have hbv6 := hbv5.step hsA (fun h => h)
      have hpW : p ≤ (W4.alloc (.cells (leafV x bv).toArray 139)).heap.size := by have := hlg6.lt; omega
      obtain ⟨v', W5, o5, hrun, hlv7, hs7, hkp⟩ := hlv6.append hpW hL (by rw [hlslH.out]; omega) (heap_alloc_new W4 (.cells (leafV x bv).toArray 139)) hbv6
      have hst7 := hst6.trans hs7
      have hlg7 : LogAt W5 o5 L p pd (LogM.raw f n M) := by
        obtain ⟨rv, vs, g1, g2, g3, g4, g5, g6⟩ := hlg6
        have hpl := lt_of_block g1
        have hne : Value.ownBlock (.slice la k lc) ≠ some p := by
          intro hx
          obtain ⟨_, _, _, q3⟩ := hlv6
          have := q3 p hx
          rw [g4] at this; simp at this
        refine ⟨rv, vs, (hkp p hne hpl).trans g1, ownsRow_same g2 fun k' hk' => hkp k' ?_ (g2.lt k' hk').2, g3.step hs7 (fun h => hL h.symm), (hs7.own p hpl).trans g4, fun k' hk' => (hs7.own k' (g2.lt k' hk').2).trans (g5 k' hk'), g6⟩
        intro hx
        obtain ⟨_, _, _, q3⟩ := hlv6
        have h1 := q3 k' hx
        rw [g5 k' hk'] at h1
        simp at h1
      have hrunH := hidden hrun
      have hE' : okb = true → Hid (E = if t < k + 1 then t else n) := by
        intro hok; subst hok
        have hi := htkH.out
        rw [hxH.out] at hi
        refine hidden ?_
        rw [hE.out]
        by_cases h1 : t < k
        · rw [if_pos h1, if_pos (by omega)]
        · have := (hi (by omega)).1 rfl
          rw [if_neg h1, if_neg (by omega)]
      have hE0 : okb = false → (t < k → (¬ (k : Int) < (E : Int)) ∧ Hid (E = if t < k + 1 then t else n)) ∧ (¬ t < k → (k : Int) < (E : Int) ∧ Hid (k = if t < k + 1 then t else n)) := by
        intro hok; subst hok
        have hi := htkH.out
        rw [hxH.out] at hi
        have hEE := hE.out
        refine ⟨fun h1 => ?_, fun h1 => ?_⟩
        · rw [if_pos h1] at hEE
          exact ⟨by omega, hidden (by rw [if_pos (by omega)]; exact hEE)⟩
        · rw [if_neg h1] at hEE
          have h2 : ¬ k < t := fun h => by have := (hi (by omega)).2 h; cases this
          exact ⟨by omega, hidden (by rw [if_pos (by omega)]; omega)⟩
      have hrel : ∀ E', Hid (E' = if t < k + 1 then t else n) → Hid (∃ (k' E'' : Nat) (o' : Own), k' ≤ n ∧ Value.int .i64 ((k : Int) + 1) = .int .i64 k' ∧ Value.int .i64 (E' : Int) = .int .i64 (E'' : Int) ∧ Hid (E'' = if t < k' then t else n) ∧ Step (Only L) w o W5 o' ∧ LogAt W5 o' L p pd (LogM.raw f n (LogM.newest (ps.take k'))) ∧ LvRow W5 o' L p v' ((ps.take k').map fun p => (saidL p).1)) := fun E' hE' =>
        hidden ⟨k + 1, E', o5, hlt, by rw [show (k : Int) + 1 = ((k + 1 : Nat) : Int) from by omega], rfl, hE', hst7, by rw [hsnM.out]; exact hlg7, by rw [hlsnH.out, hxH.out]; exact hlv7⟩
      have hrelH := hidden hrel
      rw [hW4] at *
      clear hrun hrel hlg7 hst7 hs7 hlv7 hlv6 hlg6 hst6 hsA hbv6 hst5 hlg5 hlv5 hbv5 hone hsa hkp hpW
      cases hok : okb with
      | true =>
        rw [hok] at hxH
        have hq := hE' hok
        clear hok
        have hr := hrelH.out E hq
        clear hE0 hE' hrelH
        go_wp2_with (first
          | ((with_reducible apply lit_load); exact hld.out; simp only [Act.put, List.setIfInBounds_toArray, List.set_cons_zero, List.set_cons_succ])
          | ((with_reducible apply lit_alloc); exact hal.out; simp only [Act.put, List.setIfInBounds_toArray, List.set_cons_zero, List.set_cons_succ])
          | ((with_reducible apply lit_store); exact hsoH.out; simp only [Act.put])
          | ((with_reducible apply lit_buildSlice #[(0, .agg (leafV x bv).toArray)] rfl); exact hbs.out; simp only [Act.put, List.setIfInBounds_toArray, List.set_cons_zero, List.set_cons_succ])
          | ((with_reducible apply lit_append); exact hrunH.out; simp only [Act.put, List.setIfInBounds_toArray, List.set_cons_zero, List.set_cons_succ]))
        go_roundw
        case rel => exact hr.out
        case measure => simp [intOf]; omega
      | false =>
        rw [hok] at hxH
        have hq := hE0 hok
        clear hok
        by_cases ht : t < k
        · obtain ⟨q1, q2⟩ := hq.1 ht
          clear hq ht
          have hr := hrelH.out E q2
          clear hE0 hE' hrelH
          go_wp2_with (first
          | ((with_reducible apply lit_load); exact hld.out; simp only [Act.put, List.setIfInBounds_toArray, List.set_cons_zero, List.set_cons_succ])
          | ((with_reducible apply lit_alloc); exact hal.out; simp only [Act.put, List.setIfInBounds_toArray, List.set_cons_zero, List.set_cons_succ])
          | ((with_reducible apply lit_store); exact hsoH.out; simp only [Act.put])
          | ((with_reducible apply lit_buildSlice #[(0, .agg (leafV x bv).toArray)] rfl); exact hbs.out; simp only [Act.put, List.setIfInBounds_toArray, List.set_cons_zero, List.set_cons_succ])
          | ((with_reducible apply lit_append); exact hrunH.out; simp only [Act.put, List.setIfInBounds_toArray, List.set_cons_zero, List.set_cons_succ]))
          go_roundw
          case rel => exact hr.out
          case measure => simp [intOf]; omega
        · obtain ⟨q1, q2⟩ := hq.2 ht
          clear hq ht
          have hr := hrelH.out k q2
          clear hE0 hE' hrelH
          go_wp2_with (first
          | ((with_reducible apply lit_load); exact hld.out; simp only [Act.put, List.setIfInBounds_toArray, List.set_cons_zero, List.set_cons_succ])
          | ((with_reducible apply lit_alloc); exact hal.out; simp only [Act.put, List.setIfInBounds_toArray, List.set_cons_zero, List.set_cons_succ])
          | ((with_reducible apply lit_store); exact hsoH.out; simp only [Act.put])
          | ((with_reducible apply lit_buildSlice #[(0, .agg (leafV x bv).toArray)] rfl); exact hbs.out; simp only [Act.put, List.setIfInBounds_toArray, List.set_cons_zero, List.set_cons_succ])
          | ((with_reducible apply lit_append); exact hrunH.out; simp only [Act.put, List.setIfInBounds_toArray, List.set_cons_zero, List.set_cons_succ]))
          go_roundw
          case rel => exact hr.out
          case measure => simp [intOf]; omega
    · obtain rfl : n = k := by omega
      have hEt : E = t := by
        rw [hE.out]
        by_cases h1 : t < n
        · rw [if_pos h1]
        · rw [if_neg h1]; omega
      rw [hEt]
      have htake : ps.take n = ps := List.take_of_length_le (by rw [hplH.out]; exact Nat.le_refl _)
      rw [htake] at hlg hlv
      have hlT : (ps.map fun p => (saidL p).1).take t = LogM.leavesOf ps := by
        unfold LogM.leavesOf
        rw [List.prefix_iff_eq_take.1 (List.takeWhile_prefix (fun p => (saidL p).2) (l := ps)), htH.out, List.map_take]
      have hlen : (ps.map fun p => (saidL p).1).length = n := by rw [List.length_map]; exact hplH.out
      have hlT' : (LogM.leavesOf ps).length = t := by rw [← hlT, List.length_take, hlen]; omega
      have hOf : LogM.ofPages f ps = { LogM.raw f n (LogM.newest ps) with headed := LogM.isHead (LogM.leavesOf ps), end' := if LogM.isHead (LogM.leavesOf ps) then (LogM.readAll (LogM.leavesOf ps)).1 else 1, records := if LogM.isHead (LogM.leavesOf ps) then (LogM.readAll (LogM.leavesOf ps)).2.2 else [] } := by
        unfold LogM.ofPages LogM.raw; rw [hplH.out]
      have hbnd : ∀ x ∈ LogM.leavesOf ps, x.bytes.length ≤ 480 ∧ x.of' < 65536 ∧ x.at' < 65536 := by
        intro x hx
        obtain ⟨j, hj⟩ := List.mem_iff_getElem?.1 hx
        obtain ⟨q, _, hok, rfl⟩ := LogM.leaves_get hj
        obtain ⟨h1, _, h3, _⟩ := saidL_true hok
        rw [h1]
        have hsm : ∀ l : List UInt8, l.length ≤ 2 → (num l).toNat < 65536 := fun l hl => by
          rw [num_small (by omega)]
          exact Nat.lt_of_lt_of_le (numN_lt l) (by have := Nat.pow_le_pow_right (n := 256) (by omega) hl; omega)
        exact ⟨leafOf_len q h3, hsm _ (by simp; omega), hsm _ (by simp; omega)⟩
      have hOfH := hidden hOf
      have hbndH := hidden hbnd
      clear hOf hbnd
      obtain ⟨S, hS⟩ : ∃ S, LogM.newest ps = S := ⟨_, rfl⟩
      rw [hS] at hlg
      have hheld := hlg.held
      obtain ⟨-, -, -, d3, -, -, -⟩ := hheld
      simp only [LogM.raw] at d3
      have hSH := hidden hS
      clear hS hE hEt
      by_cases hS1 : S = BitVec.allOnes 64
      · have hSi : (S.toNat : Int) = 18446744073709551615 := by rw [hS1]; rfl
        rw [hSi] at d3
        have hfinH : Hid (LogM.newest ps = BitVec.allOnes 64) := hidden (by rw [hSH.out]; exact hS1)
        clear hS1 hlv hlg
        go_wp2_with fail
        go_ret2
        exact ⟨_, o1, rfl, hst, fun _ => rfl, fun h => absurd hfinH.out h⟩
      · have hSi : ((S.toNat : Int) == 18446744073709551615) = false := by
          rw [beq_eq_false_iff_ne]; intro h
          exact hS1 (BitVec.eq_of_toNat_eq (by rw [BitVec.toNat_allOnes]; omega))
        obtain ⟨la, lc, rfl⟩ := hlv.form
        rw [hlen] at hlv ⊢
        have hNS : Hid (LogM.newest ps ≠ BitVec.allOnes 64) := hidden (by rw [hSH.out]; exact hS1)
        clear hS1
        by_cases ht0 : t = 0
        · -- no leaf at all
          have hl0 : LogM.leavesOf ps = [] := List.eq_nil_of_length_eq_zero (by rw [hlT']; exact ht0)
          have f4 : wr.frozen? ⟨p, 4, none⟩ = false := by obtain ⟨_, _, _, hf, -⟩ := hlg.open; exact hf 4
          obtain ⟨_, _, ⟨-, -, -, -, d4, -⟩, -⟩ := hlg.open
          simp only [LogM.raw] at d4
          have hsx := hlg.setStep 4 (.bool false)
          have hlx := hlg.set (m' := LogM.raw f n S) hL 4 (.bool false) (fun rv => rfl) rfl hlg.wf
          have hstx := hst.trans hsx
          have hO : LogM.ofPages f ps = LogM.raw f n S := by rw [hOfH.out, hl0, hSH.out]; rfl
          have hxH := hidden (show Step (Only L) w o _ o1 ∧ LogAt _ o1 L p pd (LogM.ofPages f ps) from ⟨hstx, by rw [hO]; exact hlx⟩)
          subst ht0
          clear hO hlx hsx hstx hlg hlv hst hl0 hlT hlT'
          go_wp2_with fail
          go_ret2
          exact ⟨_, o1, rfl, hxH.out.1, fun h => absurd h hNS.out, fun _ => ⟨p, by omega, rfl, hxH.out.2⟩⟩
        · have ht1 : 1 ≤ t := by omega
          obtain ⟨g, cap, hgv, hcap, hcm, hgp, hog, -, hlvs⟩ := hlv.lvs hL t ht1 (by rw [hlen]; exact htn)
          rw [hlT] at hlvs
          rw [hlen] at hgv hcap
          simp only [Value.slice.injEq, true_and] at hgv
          obtain ⟨rfl, rfl⟩ := hgv
          obtain ⟨rv, vs, g1, g2, g3, g4, g5, g6⟩ := hlg
          have hpg : p ≠ g := by rintro rfl; rw [g4] at hog; simp at hog
          have hvs : vs = [] := List.eq_nil_of_length_eq_zero (by simpa [LogM.raw] using g2.1)
          subst hvs
          have hlg2 : LogAt wr (tagAt o1 g (0, 0)) L p pd (LogM.raw f n S) :=
            ⟨rv, [], g1, g2, RowsT.nil _ _, by rw [tagAt_other _ _ hpg]; exact g4, fun k hk => by
              rw [tagAt_other _ _ (by rintro rfl; rw [g5 _ hk] at hog; simp at hog)]; exact g5 k hk, g6⟩
          have hst2 : Step (Only L) w o wr (tagAt o1 g (0, 0)) := ⟨hst.os, hst.tape, hst.output, hst.size, fun k hk => by rw [tagAt_other _ _ (by omega)]; exact hst.own k hk, hst.block⟩
          generalize tagAt o1 g (0, 0) = o2 at *
          obtain ⟨x0, r, hxr⟩ : ∃ x0 r, LogM.leavesOf ps = x0 :: r := by
            cases hl : LogM.leavesOf ps with
            | nil => rw [hl] at hlT'; simp at hlT'; omega
            | cons x0 r => exact ⟨x0, r, rfl⟩
          have hatt := hlvs.at
          rw [hlT'] at hatt
          obtain ⟨b', off', cap', hv', -, -, hat⟩ := hatt
          simp only [Value.slice.injEq, Option.some.injEq, Addr.mk.injEq] at hv'
          obtain ⟨⟨rfl, rfl, -⟩, -, rfl⟩ := hv'
          obtain ⟨bv0, hb0, hr0⟩ := hat 0 x0 (by rw [hxr]; rfl)
          obtain ⟨a0, c0, rfl⟩ := slc_form hb0
          have e1 := hr0 1 _ rfl
          have e2 := hr0 2 _ rfl
          have e3 := hr0 3 _ rfl
          simp only [Nat.zero_mul, Nat.add_zero, Nat.zero_add] at e1 e2 e3
          have hgl := hlvs
          have f4 : wr.frozen? ⟨p, 4, none⟩ = false := by obtain ⟨_, _, _, hf, -⟩ := hlg2.open; exact hf 4
          obtain ⟨_, _, ⟨-, -, -, -, d4, -⟩, -⟩ := hlg2.open
          simp only [LogM.raw] at d4
          have hih : LogM.isHead (LogM.leavesOf ps) = (x0.at' == 0 && x0.of' == 0 && x0.bytes.length == 0) := by rw [hxr]; rfl
          obtain ⟨A, hA⟩ : ∃ A, x0.at' = A := ⟨_, rfl⟩
          obtain ⟨F, hF⟩ : ∃ F, x0.of' = F := ⟨_, rfl⟩
          obtain ⟨N, hNb⟩ : ∃ N, x0.bytes.length = N := ⟨_, rfl⟩
          rw [hA] at e1
          rw [hF] at e2
          rw [hNb] at e3
          rw [hA, hF, hNb] at hih
          have hsx := hlg2.setStep 4 (.bool false)
          have hlx := hlg2.set (m' := LogM.raw f n S) hL 4 (.bool false) (fun rv => rfl) rfl hlg2.wf
          have hxH : LogM.isHead (LogM.leavesOf ps) = false → Hid (Step (Only L) w o _ o2 ∧ LogAt _ o2 L p pd (LogM.ofPages f ps)) := fun hh =>
            hidden ⟨hst2.trans hsx, by rw [show LogM.ofPages f ps = LogM.raw f n S from by rw [hOfH.out, hh, hSH.out]; rfl]; exact hlx⟩
          have hti : (0 : Int) < (t : Int) := by omega
          have hni : (0 : Int) < (n : Int) := by omega
          have hihH := hidden hih
          clear hih hxr hA hF hNb hr0 hat hb0 g1 g2 g3 g4 g5 g6 hst hog hlv hlx hsx
          by_cases hA0 : A = 0
          · subst hA0
            by_cases hF0 : F = 0
            · subst hF0
              by_cases hN0 : N = 0
              · subst hN0
                have hih2 : LogM.isHead (LogM.leavesOf ps) = true := by rw [hihH.out]; rfl
                have hsx := hlg2.setStep 4 (.bool true)
                have hlx := hlg2.set (m' := { LogM.raw f n S with headed := true }) hL 4 (.bool true) (fun rv => rfl) rfl hlg2.wf
                have hlvx := hlvs.step hsx hN
                have hread := lread_any hL hlx (LogM.leavesOf ps) _ hlvx (by rw [hlT']; exact ht1) (by rw [hlT']; exact htn) hbndH.out rfl rfl
                have hstx := hst2.trans hsx
                have hO : Hid (({ ({ LogM.raw f n S with headed := true } : LogM) with records := (LogM.readAll (LogM.leavesOf ps)).2.2, end' := (LogM.readAll (LogM.leavesOf ps)).1 } : LogM) = LogM.ofPages f ps) := hidden (by
                  rw [hOfH.out, hih2, hSH.out]; rfl)
                have c4 : (wr.setCell ⟨p, 4, none⟩ (.bool true)).cell? ⟨p, 4, none⟩ = some (.bool true) := by
                  obtain ⟨_, _, ⟨-, -, -, -, q4, -⟩, -⟩ := hlx.open; exact q4
                have htc : (t : Int) ≤ (lc : Int) := by omega
                clear hxH hlg2 hst2 hlvs hgl hlx hsx hlvx hih2 hpg
                go_wp2_with fail
                refine hread.mono ?_; rintro e W6 ⟨v6, o6, rfl, hs6, rfl, hl6⟩
                have hl7 : LogAt W6 o6 L p pd (LogM.ofPages f ps) := by rw [← hO.out]; exact hl6
                have hx := hidden (And.intro (hstx.trans hs6) hl7)
                clear hread hl6 hl7 hs6 hstx
                go_wp2_with fail
                go_ret2
                exact ⟨_, o6, rfl, hx.out.1, fun h => absurd h hNS.out, fun _ => ⟨p, by omega, rfl, hx.out.2⟩⟩
              · have hz : ((N : Int) == 0) = false := by rw [beq_eq_false_iff_ne]; omega
                have hx := hxH (by rw [hihH.out]; simp [hN0])
                clear hxH hlg2 hst2 hlvs hgl hN0
                go_wp2_with fail
                go_ret2
                exact ⟨_, o2, rfl, hx.out.1, fun h => absurd h hNS.out, fun _ => ⟨p, by omega, rfl, hx.out.2⟩⟩
            · have hz : ((F : Int) == 0) = false := by rw [beq_eq_false_iff_ne]; omega
              have hx := hxH (by rw [hihH.out]; simp [hF0])
              clear hxH hlg2 hst2 hlvs hgl hF0
              go_wp2_with fail
              go_ret2
              exact ⟨_, o2, rfl, hx.out.1, fun h => absurd h hNS.out, fun _ => ⟨p, by omega, rfl, hx.out.2⟩⟩
          · have hz : ((A : Int) == 0) = false := by rw [beq_eq_false_iff_ne]; omega
            have hx := hxH (by rw [hihH.out]; simp [hA0])
            clear hxH hlg2 hst2 hlvs hgl hA0
            go_wp2_with fail
            go_ret2
            exact ⟨_, o2, rfl, hx.out.1, fun h => absurd h hNS.out, fun _ => ⟨p, by omega, rfl, hx.out.2⟩⟩
end
end Go.Proofs.YtfgggkheadfiaaaR
/- Plain laws: a log's acts while the power stays. No program in sight. -/
namespace Go.Proofs.YtfgggkheadfiaaaR
open Go Go.RowKit

theorem DiskM.length_donePages (f : Nat → Nat) (pages : List (List UInt8)) (row : List (Nat × List UInt8)) : (DiskM.donePages f pages row).length = pages.length := by
  have h1 : ∀ (l : List ((Nat × List UInt8) × Nat)) (ps : List (List UInt8)), (l.foldl (DiskM.doneOne f) ps).length = ps.length := by
    intro l
    induction l with
    | nil => intro ps; rfl
    | cons x r ih => intro ps; rw [List.foldl_cons, ih]; simp [DiskM.doneOne]
  exact h1 _ _
namespace LogM
/-- Power on, no countdown, nothing under way. -/
structure Up (s : LogM × DiskM) : Prop where
  ld : s.1.dead = false
  dd : s.2.dead = false
  left : s.2.left < 0
  fit : s.1.first + s.1.n ≤ s.2.pages.length
  n2 : 2 ≤ s.1.n
  e1 : 1 ≤ s.1.end'
  en : s.1.end' ≤ s.1.n
  row : s.2.row = []
/-- A disk that stands as another, but for what its pages hold. -/
def Like (d d' : DiskM) : Prop := d'.dead = d.dead ∧ d'.left = d.left ∧ d'.row = [] ∧ d'.pages.length = d.pages.length
theorem commit_full {s : LogM × DiskM} (h1 : s.1.dead = false) (h2 : s.2.dead = false) (b : List UInt8) (hm : s.1.n - s.1.end' < many b) : commit b s = (s, 4) := by
  unfold commit alive
  rw [h1, h2]
  simp only [Bool.or_self, Bool.false_eq_true, if_false, steps, step1, if_pos hm, h1]
  obtain ⟨l, d⟩ := s
  cases l
  simp only at h1
  subst h1
  simp
end LogM
end Go.Proofs.YtfgggkheadfiaaaR
/- The laws of layer 8: a new log; 'wakes', the example that each of them ends with. -/
namespace Go.Proofs.YtfgggkheadfiaaaR
open Go Go.RowKit
attribute [local go_sem ↓] Go.wp_at_zero Go.wp_at_succ

theorem blank_num : num (DiskM.blank.take 8) = 0#64 ∧ num (DiskM.blank.drop 504) = 0#64 := by decide +kernel
theorem newest_blank : ∀ k, LogM.newest (List.replicate k DiskM.blank) = 0#64
  | 0 => rfl
  | k + 1 => by
    have h := newest_blank k
    rw [List.replicate_succ']
    unfold LogM.newest at *
    rw [List.foldl_append, h]
    simp only [List.foldl_cons, List.foldl_nil, blank_num.1, blank_num.2]
    decide
theorem leaves_blank (k : Nat) : LogM.leavesOf (List.replicate k DiskM.blank) = [] := by
  cases k with
  | zero => rfl
  | succ k =>
    have h : (saidL DiskM.blank).2 = false := by unfold saidL; rw [if_pos (.inl blank_num.1)]
    unfold LogM.leavesOf
    rw [List.replicate_succ, List.takeWhile_cons_of_neg (by simp [h])]; rfl


/-- Batches, as a law reads it. -/
theorem batches_is {w : World} {o : Own} {L p pd : Nat} {m : LogM} (h : LogAt w o L p pd m) (rs : List (List UInt8)) (hrs : m.records = rs) :
    Calls Try.prog 51 #[.pointer (some ⟨p, 0, none⟩)] w (Ret Nobody w o fun v w' o' => ∃ vs, w'.ownsRow w.heap.size 28 1 v rs.length vs ∧ RowsN w w' vs rs ∧ RowsB w' o' vs rs ∧ ∀ k, w.heap.size ≤ k → o' k = (0, 0)) := by
  refine (batches_any h).mono ?_
  rintro e w' ⟨v, vs, rfl, hb, hown, hrows⟩
  rw [hrs] at hown hrows
  have hs : Step Nobody w o w' (ext w o) := ⟨hb.os, hb.tape, hb.output, hb.size, fun k hk => if_pos hk, fun k hk _ => hb.block k hk⟩
  refine ⟨v, ext w o, rfl, hs, vs, hown, hrows, ⟨hrows.1, fun i x l hx hl => ?_⟩, fun k hk => if_neg (by omega)⟩
  have h1 := hrows.2 i x l hx hl
  exact own_bytes h1 (fun k hk => by unfold ext; rw [if_neg (by have := (h1.lt k hk).1; omega)])
theorem room_is {w : World} {o : Own} {L p pd : Nat} {m : LogM} (h : LogAt w o L p pd m) (r : Nat) (hr : m.room = r) : Calls Try.prog 48 #[.pointer (some ⟨p, 0, none⟩)] w (Ret Nobody w o fun v _ _ => v = .int .i64 (r : Int)) := by
  have := room_any h; rw [hr] at this; exact this
theorem commit_is {w : World} {o : Own} {L D p pd : Nat} {s s' : LogM × DiskM} {e : Int} (hL : L ≠ 0) (hD : D ≠ 0) (hLD : L ≠ D) (h : LD w o L D p pd s) (hrow : s.2.row.length ≤ 700000) (b : List UInt8) (bv : Value) (hb : Bytes w o bv b) (hcapb : capLe bv) (hblen : b.length ≤ 200000000000000) (he : LogM.commit b s = (s', e)) :
    Calls Try.prog 40 #[.pointer (some ⟨p, 0, none⟩), bv] w (Ret (In L D) w o fun v w' o' => v = .int .i64 e ∧ LD w' o' L D p pd s') := by
  have := commit_any hL hD hLD h hrow b bv hb hcapb hblen; rw [he] at this; exact this
theorem reset_is {w : World} {o : Own} {L D p pd : Nat} {s s' : LogM × DiskM} {e : Int} (hL : L ≠ 0) (hD : D ≠ 0) (hLD : L ≠ D) (h : LD w o L D p pd s) (hrow : s.2.row.length ≤ 700000) (he : LogM.reset s = (s', e)) :
    Calls Try.prog 43 #[.pointer (some ⟨p, 0, none⟩)] w (Ret (In L D) w o fun v w' o' => v = .int .i64 e ∧ LD w' o' L D p pd s') := by
  have := reset_any hL hD hLD h hrow; rw [he] at this; exact this

end Go.Proofs.YtfgggkheadfiaaaR
/- The laws' own helpers of layer 8: Bytes, texts, equal. -/
namespace Go.Proofs.YtfgggkheadfiaaaR
open Go Go.RowKit
attribute [local go_sem ↓] Go.wp_at_zero Go.wp_at_succ

def fillM (b : UInt8) (m : Nat) : List UInt8 := (List.range m).map fun i => b + UInt8.ofNat (i / 7)
theorem own_slc {w : World} {o : Own} {b e : Nat} {v : Value} {n : Nat} {xs : List Value} (h : w.ownsRow b e 1 v n xs) (ho : ∀ k, v.ownBlock = some k → (o k).1 = 0) : Slc w o v n xs := by
  rcases h.2 with ⟨rfl, h0⟩ | ⟨g, cap, cur, rfl, h1, h2, h3, h4, h5, h6⟩
  · subst h0; exact .inl ⟨⟨_, _, rfl⟩, rfl, List.eq_nil_of_length_eq_zero h.1⟩
  · refine .inr ⟨g, 0, cap, rfl, h3, h4, ho g rfl, lt_of_block h2, ?_⟩
    have : w.rangeAt g 0 ((cur.toList.drop 0).take n) := range_of_block (w := w) (b := g) (cs := cur.toList) (E := e) (fr := (0, 0)) (by simpa using h2) 0 n
    rw [List.drop_zero] at this
    rw [Nat.mul_one] at h6
    rwa [h6] at this
end Go.Proofs.YtfgggkheadfiaaaR
/- Plain laws: a page whose write was torn. No program in sight. -/
namespace Go.Proofs.YtfgggkheadfiaaaR
open Go Go.RowKit

theorem small8 {A : List UInt8} (h : A.length = 8) (hn : numN A < 65536) : ∃ x y : UInt8, A = [0, 0, 0, 0, 0, 0, x, y] ∧ numN A = x.toNat * 256 + y.toNat := by
  have hx : ∀ x y : UInt8, numN [0, 0, 0, 0, 0, 0, x, y] = x.toNat * 256 + y.toNat := fun x y => by simp [numN]
  obtain ⟨N, hN⟩ : ∃ N, numN A = N := ⟨_, rfl⟩
  rw [hN] at hn ⊢
  have e1 : (UInt8.ofNat (N / 256)).toNat = N / 256 := by rw [UInt8.toNat_ofNat']; omega
  have e2 : (UInt8.ofNat (N % 256)).toNat = N % 256 := by rw [UInt8.toNat_ofNat']; omega
  refine ⟨UInt8.ofNat (N / 256), UInt8.ofNat (N % 256), ?_, ?_⟩
  · apply numN_inj
    · simpa using h
    · rw [hx, e1, e2, hN]; omega
  · rw [e1, e2]; omega
/-- The first n of eight bytes are new. -/
theorem mix8 {A B : List UInt8} (hA : A.length = 8) (hB : B.length = 8) (a : numN A < 65536) (b : numN B < 65536) (n : Nat) :
    A.take n ++ B.drop n = B ∨ A.take n ++ B.drop n = A ∨ (numN (A.take n ++ B.drop n) = numN A / 256 * 256 + numN B % 256) := by
  obtain ⟨x, y, rfl, ha⟩ := small8 hA a
  obtain ⟨u, v, rfl, hb⟩ := small8 hB b
  have hy := y.toNat_lt
  have hv := v.toNat_lt
  by_cases h8 : 8 ≤ n
  · right; left
    rw [List.take_of_length_le (by simpa using h8), List.drop_eq_nil_of_le (by simpa using h8), List.append_nil]
  by_cases h7 : n = 7
  · right; right
    subst h7
    rw [ha, hb]
    have : numN (List.take 7 [0, 0, 0, 0, 0, 0, x, y] ++ List.drop 7 [0, 0, 0, 0, 0, 0, u, v]) = x.toNat * 256 + v.toNat := by simp [numN]
    rw [this]; omega
  · left
    have : n = 0 ∨ n = 1 ∨ n = 2 ∨ n = 3 ∨ n = 4 ∨ n = 5 ∨ n = 6 := by omega
    rcases this with rfl | rfl | rfl | rfl | rfl | rfl | rfl <;> rfl

namespace LogM
/-- The stamps at both ends of a page are K at most; and how they stand to one another. -/
def PageOk (K : Nat) (p : List UInt8) : Prop := p.length = 512 ∧ numN (p.take 8) ≤ K ∧ numN (p.drop 504) ≤ K ∧ (numN (p.take 8) % 256 = numN (p.drop 504) % 256 → numN (p.drop 504) / 256 ≤ numN (p.take 8) / 256)
theorem PageOk.mono {K K' : Nat} {p : List UInt8} (h : PageOk K p) (hK : K ≤ K') : PageOk K' p := ⟨h.1, Nat.le_trans h.2.1 hK, Nat.le_trans h.2.2.1 hK, h.2.2.2⟩
theorem cut_page {p : List UInt8} (_h : p.length = 512) : p = p.take 8 ++ ((p.drop 8).take 496 ++ p.drop 504) := by
  rw [show p.drop 504 = (p.drop 8).drop 496 from by rw [List.drop_drop], List.take_append_drop, List.take_append_drop]
theorem ends {A M Z : List UInt8} (hA : A.length = 8) (hM : M.length = 496) (hZ : Z.length = 8) : (A ++ (M ++ Z)).take 8 = A ∧ (A ++ (M ++ Z)).drop 504 = Z ∧ (A ++ (M ++ Z)).length = 512 := by
  refine ⟨List.take_left' hA, ?_, by simp; omega⟩
  rw [show 504 = 8 + 496 from rfl, ← List.drop_drop, List.drop_left' hA, List.drop_left' hM]
theorem splice_low {A R A' R' : List UInt8} (hA : A.length = 8) (hA' : A'.length = 8) {n : Nat} (hn : n ≤ 8) : DiskM.splicePage n (A' ++ R') (A ++ R) = (A'.take n ++ A.drop n) ++ R := by
  unfold DiskM.splicePage
  rw [List.take_append_of_le_length (by omega), List.drop_append_of_le_length (by omega), List.append_assoc]
theorem splice_mid {A M Z A' M' Z' : List UInt8} (hA : A.length = 8) (hA' : A'.length = 8) (hM : M.length = 496) (hM' : M'.length = 496) {m : Nat} (hn : m ≤ 496) : DiskM.splicePage (8 + m) (A' ++ (M' ++ Z')) (A ++ (M ++ Z)) = A' ++ ((M'.take m ++ M.drop m) ++ Z) := by
  unfold DiskM.splicePage
  have e1 : (A' ++ (M' ++ Z')).take (8 + m) = A' ++ M'.take m := by
    rw [show 8 + m = A'.length + m from by omega, List.take_length_add_append, List.take_append_of_le_length (by omega)]
  have e2 : (A ++ (M ++ Z)).drop (8 + m) = M.drop m ++ Z := by
    rw [show 8 + m = A.length + m from by omega, List.drop_length_add_append, List.drop_append_of_le_length (by omega)]
  rw [e1, e2]; simp [List.append_assoc]
theorem splice_high {A M Z A' M' Z' : List UInt8} (hA : A.length = 8) (hA' : A'.length = 8) (hM : M.length = 496) (hM' : M'.length = 496) {m : Nat} (_hn : m ≤ 8) (_hZ : Z.length = 8) (_hZ' : Z'.length = 8) : DiskM.splicePage (504 + m) (A' ++ (M' ++ Z')) (A ++ (M ++ Z)) = A' ++ (M' ++ (Z'.take m ++ Z.drop m)) := by
  unfold DiskM.splicePage
  have e1 : (A' ++ (M' ++ Z')).take (504 + m) = A' ++ (M' ++ Z'.take m) := by
    rw [show 504 + m = A'.length + (M'.length + m) from by omega, List.take_length_add_append, List.take_length_add_append]
  have e2 : (A ++ (M ++ Z)).drop (504 + m) = Z.drop m := by
    rw [show 504 + m = A.length + (M.length + m) from by omega, List.drop_length_add_append, List.drop_length_add_append]
  rw [e1, e2]; simp [List.append_assoc]
theorem says_ends {p : List UInt8} (h : (saidL p).2 = true) : numN (p.take 8) = numN (p.drop 504) := by
  obtain ⟨-, h1, h2, -⟩ := saidL_true h
  obtain ⟨e1, -, -, -, -, e2⟩ := LeafM.page_parts (leafOf p) (leafOf_len p h2)
  rw [h1] at e1 e2
  rw [e1, e2]
theorem says_not {p : List UInt8} (h : numN (p.take 8) ≠ numN (p.drop 504)) : (saidL p).2 = false := by
  cases hs : (saidL p).2 with
  | false => rfl
  | true => exact (h (says_ends hs)).elim
theorem page_cut {x : LeafM} (hx : x.bytes.length ≤ 480) : ∃ M, M.length = 496 ∧ x.page = be 8 x.stamp ++ (M ++ be 8 x.stamp) := by
  obtain ⟨e1, -, -, -, -, e2⟩ := LeafM.page_parts x hx
  have hl := LeafM.length_page hx
  have := cut_page hl
  rw [e1, e2] at this
  exact ⟨_, by simp [hl], this⟩
theorem numN_be8 (S : BitVec 64) : numN (be 8 S) = S.toNat := by rw [numN_be]; exact Nat.mod_eq_of_lt (Nat.lt_of_lt_of_le S.isLt (by decide))
theorem pageOk_page {x : LeafM} (hx : x.bytes.length ≤ 480) {K : Nat} (hK : x.stamp.toNat ≤ K) : PageOk K x.page := by
  obtain ⟨M, hM, e⟩ := page_cut hx
  obtain ⟨e1, e2, e3⟩ := ends (length_be 8 x.stamp) hM (length_be 8 x.stamp)
  unfold PageOk
  rw [e, e1, e2, e3, numN_be8]
  exact ⟨rfl, hK, hK, fun _ => Nat.le_refl _⟩
theorem torn_page {K : Nat} (x : LeafM) (hx : x.bytes.length ≤ 480) (hK : K < x.stamp.toNat) (hS : x.stamp.toNat < 65536) {p : List UInt8} (hp : PageOk K p) (n : Nat) :
    (DiskM.splicePage n x.page p = p ∨ DiskM.splicePage n x.page p = x.page ∨ (saidL (DiskM.splicePage n x.page p)).2 = false) ∧ PageOk (x.stamp.toNat + 255) (DiskM.splicePage n x.page p) := by
  obtain ⟨hl, hf, hg, hc⟩ := hp
  obtain ⟨M', hM', e⟩ := page_cut hx
  have hS8 := length_be 8 x.stamp
  have hSn := numN_be8 x.stamp
  have hcut := cut_page hl
  obtain ⟨A, hA⟩ : ∃ A, p.take 8 = A := ⟨_, rfl⟩
  obtain ⟨M, hM⟩ : ∃ M, (p.drop 8).take 496 = M := ⟨_, rfl⟩
  obtain ⟨Z, hZ⟩ : ∃ Z, p.drop 504 = Z := ⟨_, rfl⟩
  have hAl : A.length = 8 := by rw [← hA]; simp [hl]
  have hMl : M.length = 496 := by rw [← hM]; simp [hl]
  have hZl : Z.length = 8 := by rw [← hZ]; simp [hl]
  rw [hA, hM, hZ] at hcut
  rw [hA] at hf hc
  rw [hZ] at hg hc
  clear hA hM hZ
  have hAll : PageOk (x.stamp.toNat + 255) p := by
    obtain ⟨e1, e2, e3⟩ := ends hAl hMl hZl
    unfold PageOk
    rw [hcut, e1, e2, e3]
    exact ⟨rfl, by omega, by omega, hc⟩
  have hNew : PageOk (x.stamp.toNat + 255) x.page := pageOk_page hx (by omega)
  generalize hB : be 8 x.stamp = B at *
  generalize x.stamp.toNat = S at *
  have fin : ∀ {A2 M2 Z2 : List UInt8}, A2.length = 8 → M2.length = 496 → Z2.length = 8 → numN A2 ≤ S + 255 → numN Z2 ≤ S + 255 → numN A2 ≠ numN Z2 → (numN A2 % 256 = numN Z2 % 256 → numN Z2 / 256 ≤ numN A2 / 256) →
      (saidL (A2 ++ (M2 ++ Z2))).2 = false ∧ PageOk (S + 255) (A2 ++ (M2 ++ Z2)) := by
    intro A2 M2 Z2 h1 h2 h3 h4 h5 h6 h7
    obtain ⟨e1, e2, e3⟩ := ends h1 h2 h3
    refine ⟨says_not (by rw [e1, e2]; exact h6), ?_⟩
    unfold PageOk
    rw [e1, e2, e3]
    exact ⟨rfl, h4, h5, h7⟩
  by_cases h8 : n ≤ 8
  · rw [e, hcut, splice_low hAl hS8 h8]
    rcases mix8 hS8 hAl (by omega) (by omega) n with h | h | h
    · rw [h, ← hcut]; exact ⟨.inl rfl, hAll⟩
    · rw [h]
      have := fin hS8 hMl hZl (by omega) (by omega) (by omega) (by omega)
      exact ⟨.inr (.inr this.1), this.2⟩
    · by_cases he : numN (B.take n ++ A.drop n) = numN Z
      · have hA2 : B.take n ++ A.drop n = A := by
          apply numN_inj
          · simp [hS8, hAl]; omega
          · rw [h] at he ⊢
            have h1 : numN A % 256 = numN Z % 256 := by omega
            have h2 := hc h1
            omega
        rw [hA2, ← hcut]; exact ⟨.inl rfl, hAll⟩
      · have := fin (A2 := B.take n ++ A.drop n) (M2 := M) (Z2 := Z) (by simp [hS8, hAl]; omega) hMl hZl (by rw [h]; omega) (by omega) he (by rw [h]; omega)
        exact ⟨.inr (.inr this.1), this.2⟩
  · by_cases h504 : n ≤ 504
    · obtain ⟨m, rfl⟩ : ∃ m, n = 8 + m := ⟨n - 8, by omega⟩
      rw [e, hcut, splice_mid hAl hS8 hMl hM' (by omega)]
      have := fin (A2 := B) (M2 := M'.take m ++ M.drop m) (Z2 := Z) hS8 (by simp [hMl, hM']; omega) hZl (by omega) (by omega) (by omega) (by omega)
      exact ⟨.inr (.inr this.1), this.2⟩
    · by_cases h512 : n ≤ 512
      · obtain ⟨m, rfl⟩ : ∃ m, n = 504 + m := ⟨n - 504, by omega⟩
        rw [e, hcut, splice_high hAl hS8 hMl hM' (by omega) hZl hS8]
        rcases mix8 hS8 hZl (by omega) (by omega) m with h | h | h
        · rw [h]
          have := fin (A2 := B) (M2 := M') (Z2 := Z) hS8 hM' hZl (by omega) (by omega) (by omega) (by omega)
          exact ⟨.inr (.inr this.1), this.2⟩
        · rw [h, ← e]; exact ⟨.inr (.inl rfl), hNew⟩
        · by_cases he : numN B = numN (B.take m ++ Z.drop m)
          · have : B.take m ++ Z.drop m = B := by
              apply numN_inj
              · simp [hS8, hZl]; omega
              · exact he.symm
            rw [this, ← e]; exact ⟨.inr (.inl rfl), hNew⟩
          · have := fin (A2 := B) (M2 := M') (Z2 := B.take m ++ Z.drop m) hS8 hM' (by simp [hS8, hZl]; omega) (by omega) (by rw [h]; omega) he (by rw [h]; omega)
            exact ⟨.inr (.inr this.1), this.2⟩
      · have : DiskM.splicePage n x.page p = x.page := by
          unfold DiskM.splicePage
          rw [List.take_of_length_le (by rw [LeafM.length_page hx]; omega), List.drop_eq_nil_of_le (by omega), List.append_nil]
        rw [this]; exact ⟨.inr (.inl rfl), hNew⟩
end LogM

namespace DiskM
/-- Pages behind a row of writes to pages that follow one another, each of which is torn. -/
theorem torn_pages (f : Nat → Nat) (pages : List (List UInt8)) (base : Nat) (g : Nat → List UInt8) : ∀ m, base + m ≤ pages.length → ∀ j,
    (donePages f pages ((List.range m).map fun t => (base + t, g t))).getD j [] = if base ≤ j ∧ j < base + m then splicePage (f (j - base)) (g (j - base)) (pages.getD j []) else pages.getD j []
  | 0, _, j => by rw [if_neg (by omega)]; rfl
  | m + 1, h, j => by
    have ih := torn_pages f pages base g m (by omega)
    rw [List.range_succ, List.map_append, List.map_cons, List.map_nil, donePages_snoc]
    unfold doneOne
    simp only [List.length_map, List.length_range]
    rw [getD_set_in _ _ _ _ _ (by rw [length_donePages]; omega)]
    by_cases hj : base + m = j
    · rw [if_pos hj, if_pos (by omega), ih, if_neg (by omega), hj, show j - base = m from by omega]
    · rw [if_neg hj, ih]
      by_cases h2 : base ≤ j ∧ j < base + m
      · rw [if_pos h2, if_pos (by omega)]
      · rw [if_neg h2, if_neg (by omega)]
end DiskM
end Go.Proofs.YtfgggkheadfiaaaR
/- Plain laws: what a log's act leaves, whether the power stays or goes in its midst. No program in sight. -/
namespace Go.Proofs.YtfgggkheadfiaaaR
open Go Go.RowKit

namespace LogM
/-- A disk but for one part is as another. -/
def Oth (f n : Nat) (d d' : DiskM) : Prop := d'.pages.length = d.pages.length ∧ ∀ j, (j < f ∨ f + n ≤ j) → d'.seen j = d.seen j
theorem Oth.refl (f n : Nat) (d : DiskM) : Oth f n d d := ⟨rfl, fun _ _ => rfl⟩
theorem Oth.trans {f n : Nat} {d d1 d2 : DiskM} (h : Oth f n d d1) (g : Oth f n d1 d2) : Oth f n d d2 := ⟨g.1.trans h.1, fun j hj => (g.2 j hj).trans (h.2 j hj)⟩
/-- The log is what its pages tell, the power is on, and nothing waits. -/
structure Good (K : Nat) (s : LogM × DiskM) : Prop where
  dd : s.2.dead = false
  row : s.2.row = []
  fine : Fine s
  pg : ∀ j, j < s.1.n → PageOk K (s.2.seen (s.1.first + j))
theorem Good.ld {K : Nat} {s : LogM × DiskM} (h : Good K s) : s.1.dead = false := by rw [h.fine.1]; rfl
theorem Good.ends {K : Nat} {s : LogM × DiskM} (h : Good K s) : 1 ≤ s.1.end' ∧ s.1.end' ≤ s.1.n := by
  have := end_le s.1.first (seenPages s.2 s.1.first s.1.n) (by rw [length_seenPages]; have := h.fine.2.2.1; omega)
  rw [length_seenPages, ← h.fine.1] at this; exact this
theorem num8 {p : List UInt8} (h : p.length = 512) : (num (p.take 8)).toNat = numN (p.take 8) ∧ (num (p.drop 504)).toNat = numN (p.drop 504) := ⟨num_small (by simp; omega), num_small (by simp; omega)⟩
theorem Good.newest {K : Nat} {s : LogM × DiskM} (h : Good K s) : newest (seenPages s.2 s.1.first s.1.n) = s.1.stamp := by
  have := congrArg LogM.stamp h.fine.1
  exact this.symm
theorem mem_seen {d : DiskM} {f n j : Nat} (hj : j < n) : d.seen (f + j) ∈ seenPages d f n := List.mem_of_getElem? (get_seenPages d f n j hj)
theorem of_mem_seen {d : DiskM} {f n : Nat} {p : List UInt8} (h : p ∈ seenPages d f n) : ∃ j, j < n ∧ p = d.seen (f + j) := by
  unfold seenPages at h
  simp only [List.mem_map, List.mem_range] at h
  obtain ⟨j, hj, rfl⟩ := h
  exact ⟨j, hj, rfl⟩
theorem newest_seen {K f n : Nat} {d : DiskM} (h : ∀ j, j < n → PageOk K (d.seen (f + j))) : (LogM.newest (seenPages d f n)).toNat ≤ K := by
  rw [newest_le]
  intro p hp
  obtain ⟨j, hj, rfl⟩ := of_mem_seen hp
  obtain ⟨h1, h2, h3, -⟩ := h j hj
  obtain ⟨e1, e2⟩ := num8 h1
  rw [e1, e2]; exact ⟨h2, h3⟩
theorem Good.stamp_le {K : Nat} {s : LogM × DiskM} (h : Good K s) : s.1.stamp.toNat ≤ K := by rw [← h.newest]; exact newest_seen h.pg
theorem Good.page {K : Nat} {s : LogM × DiskM} (h : Good K s) {j : Nat} (hj : j < s.1.n) : PageOk s.1.stamp.toNat (s.2.seen (s.1.first + j)) := by
  obtain ⟨h1, h2, h3, h4⟩ := h.pg j hj
  have hn := newest_ge (mem_seen (d := s.2) (f := s.1.first) hj)
  obtain ⟨e1, e2⟩ := num8 h1
  rw [e1, e2, h.newest] at hn
  exact ⟨h1, hn.1, hn.2, h4⟩
theorem Good.next {K : Nat} {s : LogM × DiskM} (h : Good K s) (hK : K < 65536) : (s.1.stamp + 1#64).toNat = s.1.stamp.toNat + 1 := by
  have := h.stamp_le
  rw [BitVec.toNat_add]
  simp
  omega

/-- Writes of pages that follow one another, and a Sync. -/
theorem puts_any {d : DiskM} (hd : d.dead = false) (hw : d.wf) (hrow : d.row = []) (l : LogM) (of' : Nat) (b : List UInt8) (k : Nat) (hf : l.first + l.end' + k ≤ d.pages.length) :
    (∃ d1 d', put l of' b k 0 d = (d1, 0) ∧ d1.sync = (d', 0) ∧ d'.dead = false ∧ d'.row = [] ∧ d'.wf ∧ d'.pages.length = d.pages.length ∧ (d.left < 0 → d'.left = d.left) ∧
      ∀ j, d'.seen j = if l.first + l.end' ≤ j ∧ j < l.first + l.end' + k then LeafM.page ⟨l.stamp, j - (l.first + l.end'), of', part b (j - (l.first + l.end'))⟩ else d.seen j) ∨
    (0 ≤ d.left ∧ ∃ d', (put l of' b k 0 d = (d', 9) ∨ ∃ d1, put l of' b k 0 d = (d1, 0) ∧ d1.sync = (d', 9)) ∧ d'.dead = true ∧ ∃ m, m ≤ k ∧ d'.pages = d.pages ∧
      d'.row = (List.range m).map fun t => (l.first + l.end' + t, LeafM.page ⟨l.stamp, t, of', part b t⟩)) := by
  obtain ⟨m, d1, q1, q2, q3, q4, q5, q6, q7⟩ := put_any l l.stamp rfl of' b k 0 d hd hf
  rw [hrow, List.nil_append] at q4
  simp only [Nat.add_zero, Nat.zero_add] at q4
  by_cases hm : m = k
  · subst hm
    rw [if_pos rfl] at q2
    have hd1 : d1.dead = false := by rw [q5]; simp
    have hp1 : 0 < d1.pages.length := by rw [q3]; have := hw.1; omega
    have hs := DiskM.sync_in hd1 hp1
    obtain ⟨t1, t2, t3⟩ := DiskM.tick_same d1
    by_cases h0 : d1.left = 0
    · rw [if_pos h0] at hs
      right
      refine ⟨?_, _, .inr ⟨d1, q2, hs⟩, rfl, m, Nat.le_refl _, q3, q4⟩
      by_cases hn : d.left < 0
      · have := (q6 hn).2; omega
      · omega
    · rw [if_neg h0] at hs
      left
      have hx : ∀ x ∈ d1.row, x.1 < d1.pages.length ∧ x.2.length = 512 := by
        rw [q4, q3]
        intro x hx
        simp only [List.mem_map, List.mem_range] at hx
        obtain ⟨t, ht, rfl⟩ := hx
        exact ⟨by show l.first + l.end' + t < _; omega, LeafM.length_page (length_part _ _)⟩
      have hq : ∀ p ∈ d1.pages, p.length = 512 := by rw [q3]; exact hw.2.2.1
      have hpw := DiskM.donePages_wf (fun _ => 512) (by simp) d1.pages hq d1.row hx
      have hlen : (d1.tick.done fun _ => 512).pages.length = d.pages.length := by
        show (DiskM.donePages _ d1.tick.pages d1.tick.row).length = _
        rw [t1, t2, hpw.1, q3]
      have hleft : -1 ≤ d1.tick.left ∧ d1.tick.left ≤ 9223372036854775807 ∧ (d.left < 0 → d1.tick.left = d.left) := by
        have h5 := hw.2.2.2.2
        obtain ⟨u1, u2⟩ := DiskM.tick_left d1
        by_cases hn : d.left < 0
        · have := (q6 hn).2
          have := u1 (by omega)
          refine ⟨by omega, by omega, fun _ => by omega⟩
        · have := q7 (by omega)
          have := u2 (by omega)
          refine ⟨by omega, by omega, fun h => by omega⟩
      refine ⟨d1, _, q2, hs, t3.trans hd1, rfl, ?_, hlen, hleft.2.2, fun j => ?_⟩
      · refine ⟨by rw [hlen]; exact hw.1, by rw [hlen]; exact hw.2.1, ?_, (by intro x hx; cases hx), hleft.1, hleft.2.1⟩
        show ∀ p ∈ DiskM.donePages _ d1.tick.pages d1.tick.row, _
        rw [t1, t2]; exact hpw.2
      · show (DiskM.donePages (fun _ => 512) d1.tick.pages d1.tick.row).getD j [] = _
        rw [t1, t2, q3, q4, DiskM.torn_pages _ _ _ _ _ (by omega)]
        have hsj : d.seen j = d.pages.getD j [] := by unfold DiskM.seen; rw [hrow]; rfl
        rw [hsj]
        split
        · rename_i hj
          unfold DiskM.splicePage
          rw [List.take_of_length_le (by rw [LeafM.length_page (length_part _ _)]; omega), List.drop_eq_nil_of_le (by rw [DiskM.getD_wf hw.2.2.1 (by omega)]; omega), List.append_nil]
        · rfl
  · rw [if_neg hm] at q2
    right
    refine ⟨?_, d1, .inl q2, ?_, m, q1, q3, q4⟩
    · by_cases hn : d.left < 0
      · exact (hm (q6 hn).1).elim
      · omega
    · rw [q5]; simp; omega
/-- The power comes again. -/
theorem torn_any {d d' : DiskM} (hw : d.wf) (hrow : d.row = []) (hp : d'.pages = d.pages) (base m : Nat) (g : Nat → List UInt8) (hg : ∀ t, (g t).length = 512) (hr : d'.row = (List.range m).map fun t => (base + t, g t)) (hm : base + m ≤ d.pages.length) (fates : List Int) :
    (d'.restart fates).dead = false ∧ (d'.restart fates).row = [] ∧ (d'.restart fates).wf ∧ (d'.restart fates).left = -1 ∧ (d'.restart fates).pages.length = d.pages.length ∧
      ∀ j, (d'.restart fates).seen j = if base ≤ j ∧ j < base + m then DiskM.splicePage (DiskM.fate fates (j - base)) (g (j - base)) (d.seen j) else d.seen j := by
  have hx : ∀ x ∈ d'.row, x.1 < d'.pages.length ∧ x.2.length = 512 := by
    rw [hr, hp]
    intro x hx
    simp only [List.mem_map, List.mem_range] at hx
    obtain ⟨t, ht, rfl⟩ := hx
    exact ⟨by show base + t < _; omega, hg _⟩
  have hpw := DiskM.donePages_wf (DiskM.fate fates) (DiskM.fate_le fates) d'.pages (by rw [hp]; exact hw.2.2.1) d'.row hx
  have hlen : (d'.restart fates).pages.length = d.pages.length := by
    show (DiskM.donePages _ d'.pages d'.row).length = _
    rw [hpw.1, hp]
  refine ⟨rfl, rfl, ⟨by rw [hlen]; exact hw.1, by rw [hlen]; exact hw.2.1, hpw.2, (by intro x hx; cases hx), by show (-1 : Int) ≤ -1; omega, by show (-1 : Int) ≤ _; omega⟩, rfl, hlen, fun j => ?_⟩
  show (DiskM.donePages _ d'.pages d'.row).getD j [] = _
  rw [hp, hr, DiskM.torn_pages _ _ _ _ _ hm]
  have hsj : d.seen j = d.pages.getD j [] := by unfold DiskM.seen; rw [hrow]; rfl
  rw [hsj]

/-- Behind a loss of power: the part tells a log again, with one of two rows of records. -/
structure Back (K f n : Nat) (d d2 : DiskM) (R R' : List (List UInt8)) : Prop where
  good : Good K (ofPages f (seenPages d2 f n), d2)
  left : d2.left = -1
  oth : Oth f n d d2
  recs : (ofPages f (seenPages d2 f n)).records = R ∨ (ofPages f (seenPages d2 f n)).records = R'
theorem seen_n (f n : Nat) (d : DiskM) : (ofPages f (seenPages d f n)).n = n := length_seenPages d f n
theorem good_back {K f n : Nat} {d2 : DiskM} (h1 : d2.dead = false) (h2 : d2.row = []) (h3 : d2.wf) (h4 : f + n ≤ d2.pages.length) (h5 : 2 ≤ n) (h6 : ∀ j, j < n → PageOk K (d2.seen (f + j))) : Good K (ofPages f (seenPages d2 f n), d2) := by
  refine ⟨h1, h2, ⟨?_, ?_, ?_, h3⟩, ?_⟩
  · show ofPages f (seenPages d2 f n) = ofPages f (seenPages d2 f (ofPages f (seenPages d2 f n)).n)
    rw [seen_n]
  · show f + (ofPages f (seenPages d2 f n)).n ≤ _
    rw [seen_n]; exact h4
  · show 2 ≤ (ofPages f (seenPages d2 f n)).n
    rw [seen_n]; exact h5
  · show ∀ j, j < (ofPages f (seenPages d2 f n)).n → _
    rw [seen_n]; exact h6

theorem ofPages_torn {f : Nat} {pages pages' : List (List UInt8)} {S : BitVec 64} {b : List UInt8} (hh : (ofPages f pages).headed = true) (hS : (LogM.newest pages).toNat < S.toNat) (hk : many b < 65536)
    (hout : ∀ j, (j < (ofPages f pages).end' ∨ (ofPages f pages).end' + many b ≤ j) → pages'[j]? = pages[j]?)
    (hin : ∀ i, i < many b → ∃ p', pages'[(ofPages f pages).end' + i]? = some p' ∧ (pages[(ofPages f pages).end' + i]? = some p' ∨ p' = LeafM.page ⟨S, i, many b, part b i⟩ ∨ (saidL p').2 = false)) :
    (ofPages f pages').records = (ofPages f pages).records ∨ (ofPages f pages').records = (ofPages f pages).records ++ [b] := by
  have hh' : isHead (leavesOf pages) = true := hh
  have hee : (ofPages f pages).end' = (readAll (leavesOf pages)).1 := by show (if isHead (leavesOf pages) then _ else _) = _; rw [if_pos hh']
  have hrr : (ofPages f pages).records = (readAll (leavesOf pages)).2.2 := by show (if isHead (leavesOf pages) then _ else _) = _; rw [if_pos hh']
  rw [hee] at hout hin
  obtain ⟨a, c⟩ := records_put hh' hS hk hout hin
  have hr' : (ofPages f pages').records = (readAll (leavesOf pages')).2.2 := by show (if isHead (leavesOf pages') then _ else _) = _; rw [if_pos a]
  rw [hrr, hr']
  rcases c with ⟨c, -⟩ | ⟨-, c⟩
  · left; rw [c]
  · right; rw [c]
theorem ofPages_torn_head {f : Nat} {pages pages' : List (List UInt8)} {S : BitVec 64} (hS : (LogM.newest pages).toNat < S.toNat) (hout : ∀ j, 1 ≤ j → pages'[j]? = pages[j]?)
    (hin : pages'[0]? = pages[0]? ∨ pages'[0]? = some (LeafM.page ⟨S, 0, 0, []⟩) ∨ ∃ p, pages'[0]? = some p ∧ (saidL p).2 = false) :
    (ofPages f pages').records = (ofPages f pages).records ∨ (ofPages f pages').records = [] := by
  obtain ⟨a, c⟩ := records_head hS hout hin
  by_cases h : pages'[0]? = some (LeafM.page ⟨S, 0, 0, []⟩)
  · right
    obtain ⟨a1, a2⟩ := a h
    show (if isHead (leavesOf pages') then (readAll (leavesOf pages')).2.2 else []) = []
    rw [if_pos a1, a2]
  · rcases c h with c | c
    · left
      show (if isHead (leavesOf pages') then (readAll (leavesOf pages')).2.2 else []) = (if isHead (leavesOf pages) then (readAll (leavesOf pages)).2.2 else [])
      rw [c]
    · right
      show (if isHead (leavesOf pages') then (readAll (leavesOf pages')).2.2 else []) = []
      rw [c]; rfl

theorem part_nil (i : Nat) : part [] i = [] := by simp [part]
theorem seen_none {d : DiskM} {f n j : Nat} (hj : n ≤ j) : (seenPages d f n)[j]? = none := List.getElem?_eq_none (by rw [length_seenPages]; exact hj)
/-- The log with a new head. -/
def reheaded (l : LogM) : LogM := { l with stamp := l.stamp + 1#64, headed := true, records := [], end' := 1 }
theorem head_cases {K : Nat} {s : LogM × DiskM} (h : Good K s) (hK : K + 1 < 65536) :
    (∃ d', head s = (({ s.1 with stamp := s.1.stamp + 1#64 }, d'), 0) ∧ Good (K + 1) (reheaded s.1, d') ∧ Oth s.1.first s.1.n s.2 d' ∧ (s.2.left < 0 → d'.left = s.2.left)) ∨
    (0 ≤ s.2.left ∧ ∃ d', head s = (({ s.1 with stamp := s.1.stamp + 1#64 }, d'), 9) ∧ d'.dead = true ∧ d'.row.length ≤ 4096 ∧ ∀ fates, Back (K + 256) s.1.first s.1.n s.2 (d'.restart fates) s.1.records []) := by
  have hfit := h.fine.2.1
  have hn2 := h.fine.2.2.1
  have hw := h.fine.2.2.2
  have hst := h.stamp_le
  have hnx := h.next (by omega)
  obtain ⟨S, hS⟩ : ∃ S, s.1.stamp + 1#64 = S := ⟨_, rfl⟩
  have hput : ∀ d, put { s.1 with stamp := S, end' := 0 } 0 [] 1 0 d = (let r := d.write s.1.first (LeafM.page ⟨S, 0, 0, []⟩); if r.2 ≠ 0 then r else (r.1, 0)) := fun d => by
    show (let r := d.write ((s.1.first + 0 + 0 : Nat) : Int) (LeafM.page ⟨S, 0, 0, part [] 0⟩); if r.2 ≠ 0 then r else put _ _ _ 0 _ r.1) = _
    rw [part_nil]; rfl
  have hnew : (LogM.newest (seenPages s.2 s.1.first s.1.n)).toNat < S.toNat := by rw [h.newest, ← hS, hnx]; omega
  have hhead : head s = (let r := s.2.write (s.1.first : Int) (LeafM.page ⟨S, 0, 0, []⟩); if r.2 ≠ 0 then (({ s.1 with stamp := S }, r.1), r.2) else (({ s.1 with stamp := S }, r.1.sync.1), r.1.sync.2)) := by
    unfold head; rw [hS]
  rcases puts_any h.dd hw h.row { s.1 with stamp := S, end' := 0 } 0 [] 1 (by show s.1.first + 0 + 1 ≤ _; omega) with ⟨d1, d', q1, q2, q3, q4, q5, q6, q7, q8⟩ | ⟨q0, d', q1, q2, m, q3, q4, q5⟩
  · left
    change ∀ j, d'.seen j = if s.1.first + 0 ≤ j ∧ j < s.1.first + 0 + 1 then LeafM.page ⟨S, _, 0, part [] _⟩ else _ at q8
    have hpages : seenPages d' s.1.first s.1.n = headPages (seenPages s.2 s.1.first s.1.n) S := by
      refine seenPages_ext (by rw [length_headPages, length_seenPages]) fun j hj => ?_
      rw [q8, headPages]
      by_cases h0 : j = 0
      · subst h0
        rw [List.getElem?_set_self (by rw [length_seenPages]; omega), if_pos (by omega), part_nil]
        simp
      · rw [List.getElem?_set_ne (by omega), if_neg (by omega), get_seenPages _ _ _ _ hj]
    have hofp := ofPages_head (f := s.1.first) (S := S) hnew (by rw [length_seenPages]; omega)
    rw [length_seenPages, ← hpages] at hofp
    refine ⟨d', ?_, ⟨q3, q4, ⟨?_, by show s.1.first + s.1.n ≤ d'.pages.length; omega, hn2, q5⟩, ?_⟩, ⟨q6, fun j hj => ?_⟩, q7⟩
    · rw [hput] at q1
      rw [hhead, hS]
      revert q1
      generalize s.2.write (s.1.first : Int) (LeafM.page ⟨S, 0, 0, []⟩) = r
      intro q1
      by_cases hr : r.2 = 0
      · simp only [hr, ne_eq, not_true_eq_false, if_false, Prod.mk.injEq, and_true] at q1
        simp only [hr, ne_eq, not_true_eq_false, if_false, q1, q2]
      · simp only [ne_eq, hr, not_false_eq_true, if_true] at q1
        rw [q1] at hr; exact (hr rfl).elim
    · show reheaded s.1 = ofPages s.1.first (seenPages d' s.1.first s.1.n)
      rw [hofp, reheaded, hS, h.ld]
    · intro j hj
      change j < s.1.n at hj
      show PageOk _ (d'.seen (s.1.first + j))
      rw [q8]
      split
      · exact pageOk_page (by rw [part_nil]; simp) (by show S.toNat ≤ _; rw [← hS, hnx]; omega)
      · exact (h.pg j hj).mono (by omega)
    · rw [q8, if_neg (by omega)]
  · right
    have hrl : d'.row.length ≤ 4096 := by rw [q5]; simp only [List.length_map, List.length_range]; have := hw.2.1; omega
    refine ⟨q0, d', ?_, q2, hrl, fun fates => ?_⟩
    · rw [hhead, hS]
      simp only [hput] at q1
      revert q1
      generalize s.2.write (s.1.first : Int) (LeafM.page ⟨S, 0, 0, []⟩) = r
      intro q1
      by_cases hr : r.2 = 0
      · simp only [hr, ne_eq, not_true_eq_false, if_false, Prod.mk.injEq, and_true] at q1
        rcases q1 with ⟨-, q1⟩ | ⟨d1, q1, q1'⟩
        · cases q1
        · simp only [hr, ne_eq, not_true_eq_false, if_false, q1, q1']
      · simp only [ne_eq, hr, not_false_eq_true, if_true] at q1
        rcases q1 with q1 | ⟨d1, q1, -⟩
        · rw [q1]; simp
        · rw [q1] at hr; exact (hr rfl).elim
    · obtain ⟨t1, t2, t3, t4, t5, t6⟩ := torn_any hw h.row q4 (s.1.first + 0) m _ (fun t => LeafM.length_page (length_part _ _)) q5 (by omega) fates
      simp only [part_nil] at t6
      have hseen : ∀ j, j < s.1.n → ((d'.restart fates).seen (s.1.first + j) = s.2.seen (s.1.first + j) ∨ j = 0 ∧ ((d'.restart fates).seen s.1.first = LeafM.page ⟨S, 0, 0, []⟩ ∨ (saidL ((d'.restart fates).seen s.1.first)).2 = false)) ∧ PageOk (K + 256) ((d'.restart fates).seen (s.1.first + j)) := by
        intro j hj
        rw [t6 (s.1.first + j)]
        split
        · rename_i hc
          obtain rfl : j = 0 := by omega
          have hm0 : 0 < m := by omega
          have ht := torn_page (K := s.1.stamp.toNat) ⟨S, 0, 0, []⟩ (by simp) (by show _ < S.toNat; rw [← hS, hnx]; omega) (by show S.toNat < _; rw [← hS, hnx]; omega) (h.page hj) (DiskM.fate fates 0)
          have e0 := t6 s.1.first
          rw [if_pos (by omega)] at e0
          simp only [Nat.add_zero, Nat.sub_self] at e0 ht ⊢
          rw [e0]
          obtain ⟨ht1, ht2⟩ := ht
          refine ⟨?_, ht2.mono (by show S.toNat + 255 ≤ _; rw [← hS, hnx]; omega)⟩
          rcases ht1 with ht1 | ht1 | ht1
          · exact .inl ht1
          · exact .inr ⟨trivial, .inl ht1⟩
          · exact .inr ⟨trivial, .inr ht1⟩
        · exact ⟨.inl rfl, (h.pg j hj).mono (by omega)⟩
      refine ⟨good_back t1 t2 t3 (by omega) hn2 (fun j hj => (hseen j hj).2), t4, ⟨t5, fun j hj => by rw [t6, if_neg (by omega)]⟩, ?_⟩
      have hrec := ofPages_torn_head (f := s.1.first) (pages := seenPages s.2 s.1.first s.1.n) (pages' := seenPages (d'.restart fates) s.1.first s.1.n) (S := S) hnew
        (fun j hj => by
          by_cases hjn : j < s.1.n
          · rw [get_seenPages _ _ _ _ hjn, get_seenPages _ _ _ _ hjn, t6, if_neg (by omega)]
          · rw [seen_none (by omega), seen_none (by omega)])
        (by
          rw [get_seenPages _ _ _ _ (by omega), get_seenPages _ _ _ _ (by omega)]
          rcases (hseen 0 (by omega)).1 with hx | ⟨-, hx | hx⟩
          · exact .inl (by rw [hx])
          · exact .inr (.inl (by rw [Nat.add_zero, hx]))
          · exact .inr (.inr ⟨_, by rw [Nat.add_zero], hx⟩))
      rw [← h.fine.1] at hrec
      exact hrec
/-- The log with one more record. -/
def recorded (l : LogM) (b : List UInt8) : LogM := { l with stamp := l.stamp + 1#64, records := l.records ++ [b], end' := l.end' + many b }
theorem step3_cases {K : Nat} {s : LogM × DiskM} (h : Good K s) (hh : s.1.headed = true) (hK : K + 1 < 65536) (b : List UInt8) (hm : many b ≤ s.1.n - s.1.end') :
    (∃ d', step3 b s = (({ s.1 with stamp := s.1.stamp + 1#64 }, d'), 0) ∧ Good (K + 1) (recorded s.1 b, d') ∧ Oth s.1.first s.1.n s.2 d' ∧ (s.2.left < 0 → d'.left = s.2.left)) ∨
    (0 ≤ s.2.left ∧ ∃ d', step3 b s = (({ s.1 with stamp := s.1.stamp + 1#64 }, d'), 9) ∧ d'.dead = true ∧ d'.row.length ≤ 4096 ∧ ∀ fates, Back (K + 256) s.1.first s.1.n s.2 (d'.restart fates) s.1.records (s.1.records ++ [b])) := by
  have hfit := h.fine.2.1
  have hn2 := h.fine.2.2.1
  have hw := h.fine.2.2.2
  have hst := h.stamp_le
  have hnx := h.next (by omega)
  have hend := h.ends
  have hmp := many_pos b
  have h4096 := hw.2.1
  obtain ⟨S, hS⟩ : ∃ S, s.1.stamp + 1#64 = S := ⟨_, rfl⟩
  have hnew : (LogM.newest (seenPages s.2 s.1.first s.1.n)).toNat < S.toNat := by rw [h.newest, ← hS, hnx]; omega
  have hofs : (ofPages s.1.first (seenPages s.2 s.1.first s.1.n)).headed = true := by rw [← h.fine.1]; exact hh
  have hofe : (ofPages s.1.first (seenPages s.2 s.1.first s.1.n)).end' = s.1.end' := by rw [← h.fine.1]
  have hofr : (ofPages s.1.first (seenPages s.2 s.1.first s.1.n)).records = s.1.records := by rw [← h.fine.1]
  rcases puts_any h.dd hw h.row { s.1 with stamp := S } (many b) b (many b) (by show s.1.first + s.1.end' + many b ≤ _; omega) with ⟨d1, d', q1, q2, q3, q4, q5, q6, q7, q8⟩ | ⟨q0, d', q1, q2, m, q3, q4, q5⟩
  · left
    change ∀ j, d'.seen j = if s.1.first + s.1.end' ≤ j ∧ j < s.1.first + s.1.end' + many b then LeafM.page ⟨S, j - (s.1.first + s.1.end'), many b, part b _⟩ else _ at q8
    have hpages : seenPages d' s.1.first s.1.n = putPages (seenPages s.2 s.1.first s.1.n) s.1.end' S b := by
      refine seenPages_ext (by rw [length_putPages, length_seenPages]) fun j hj => ?_
      rw [q8, get_putPages, length_seenPages, if_pos hj]
      by_cases hc : s.1.end' ≤ j ∧ j < s.1.end' + many b
      · rw [if_pos hc, if_pos (by omega), show s.1.first + j - (s.1.first + s.1.end') = j - s.1.end' from by omega]
      · rw [if_neg hc, if_neg (by omega), get_seenPages _ _ _ _ hj]
    have hofp := ofPages_put (f := s.1.first) (S := S) (b := b) hofs hnew (by omega) (by rw [hofe, length_seenPages]; omega)
    rw [hofe, hofr, length_seenPages, ← hpages] at hofp
    refine ⟨d', ?_, ⟨q3, q4, ⟨?_, by show s.1.first + s.1.n ≤ d'.pages.length; omega, hn2, q5⟩, ?_⟩, ⟨q6, fun j hj => ?_⟩, q7⟩
    · unfold step3
      rw [hS]
      simp only [q1, ne_eq, not_true_eq_false, if_false, q2]
    · show recorded s.1 b = ofPages s.1.first (seenPages d' s.1.first s.1.n)
      rw [hofp, recorded, hS, h.ld, hh]
    · intro j hj
      change j < s.1.n at hj
      show PageOk _ (d'.seen (s.1.first + j))
      rw [q8]
      split
      · exact pageOk_page (length_part _ _) (by show S.toNat ≤ _; rw [← hS, hnx]; omega)
      · exact (h.pg j hj).mono (by omega)
    · rw [q8, if_neg (by omega)]
  · right
    have hrl : d'.row.length ≤ 4096 := by rw [q5]; simp only [List.length_map, List.length_range]; have := hw.2.1; omega
    refine ⟨q0, d', ?_, q2, hrl, fun fates => ?_⟩
    · unfold step3
      rw [hS]
      rcases q1 with q1 | ⟨d1, q1, q1'⟩
      · simp only [q1]; simp
      · simp only [q1, ne_eq, not_true_eq_false, if_false, q1']
    · obtain ⟨t1, t2, t3, t4, t5, t6⟩ := torn_any hw h.row q4 (s.1.first + s.1.end') m _ (fun t => LeafM.length_page (length_part _ _)) q5 (by omega) fates
      have hseen : ∀ j, j < s.1.n → ((d'.restart fates).seen (s.1.first + j) = s.2.seen (s.1.first + j) ∨ (s.1.end' ≤ j ∧ j < s.1.end' + many b) ∧ ((d'.restart fates).seen (s.1.first + j) = LeafM.page ⟨S, j - s.1.end', many b, part b (j - s.1.end')⟩ ∨ (saidL ((d'.restart fates).seen (s.1.first + j))).2 = false)) ∧ PageOk (K + 256) ((d'.restart fates).seen (s.1.first + j)) := by
        intro j hj
        rw [t6 (s.1.first + j)]
        split
        · rename_i hc
          rw [show s.1.first + j - (s.1.first + s.1.end') = j - s.1.end' from by omega]
          have ht := torn_page (K := s.1.stamp.toNat) ⟨S, j - s.1.end', many b, part b (j - s.1.end')⟩ (length_part _ _) (by show _ < S.toNat; rw [← hS, hnx]; omega) (by show S.toNat < _; rw [← hS, hnx]; omega) (h.page hj) (DiskM.fate fates (j - s.1.end'))
          obtain ⟨ht1, ht2⟩ := ht
          refine ⟨?_, ht2.mono (by show S.toNat + 255 ≤ _; rw [← hS, hnx]; omega)⟩
          rcases ht1 with ht1 | ht1 | ht1
          · exact .inl ht1
          · exact .inr ⟨by omega, .inl ht1⟩
          · exact .inr ⟨by omega, .inr ht1⟩
        · exact ⟨.inl rfl, (h.pg j hj).mono (by omega)⟩
      refine ⟨good_back t1 t2 t3 (by omega) hn2 (fun j hj => (hseen j hj).2), t4, ⟨t5, fun j hj => by rw [t6, if_neg (by omega)]⟩, ?_⟩
      have hrec := ofPages_torn (f := s.1.first) (pages := seenPages s.2 s.1.first s.1.n) (pages' := seenPages (d'.restart fates) s.1.first s.1.n) (S := S) (b := b) hofs hnew (by omega)
        (fun j hj => by
          rw [hofe] at hj
          by_cases hjn : j < s.1.n
          · rw [get_seenPages _ _ _ _ hjn, get_seenPages _ _ _ _ hjn, t6, if_neg (by omega)]
          · rw [seen_none (by omega), seen_none (by omega)])
        (fun i hi => by
          rw [hofe, get_seenPages _ _ _ _ (by omega), get_seenPages _ _ _ _ (by omega)]
          refine ⟨_, rfl, ?_⟩
          rcases (hseen (s.1.end' + i) (by omega)).1 with hx | ⟨-, hx | hx⟩
          · exact .inl (by rw [hx])
          · exact .inr (.inl (by rw [hx, Nat.add_sub_cancel_left]))
          · exact .inr (.inr hx))
      rw [hofr] at hrec
      exact hrec
/-- What Commit may come to. -/
theorem commit_cases {K : Nat} {s : LogM × DiskM} (h : Good K s) (hK : K + 2 < 65536) (b : List UInt8) :
    (s.1.n - s.1.end' < many b ∧ commit b s = (s, 4)) ∨
    (many b ≤ s.1.n - s.1.end' ∧ ∃ s', commit b s = (s', 0) ∧ Good (K + 2) s' ∧ s'.1.records = s.1.records ++ [b] ∧ s'.1.end' = s.1.end' + many b ∧ s'.1.n = s.1.n ∧ s'.1.first = s.1.first ∧ Oth s.1.first s.1.n s.2 s'.2 ∧ (s.2.left < 0 → s'.2.left = s.2.left)) ∨
    (0 ≤ s.2.left ∧ ∃ s', commit b s = (s', 9) ∧ s'.1.dead = true ∧ s'.2.dead = true ∧ s'.2.row.length ≤ 4096 ∧ s'.1.n = s.1.n ∧ s'.1.first = s.1.first ∧ ∀ fates, Back (K + 257) s.1.first s.1.n s.2 (s'.2.restart fates) s.1.records (s.1.records ++ [b])) := by
  by_cases hm : s.1.n - s.1.end' < many b
  · exact .inl ⟨hm, commit_full h.ld h.dd b hm⟩
  right
  have hstep1 : step1 b s = (s, 0) := by unfold step1; rw [if_neg hm]
  have hcom : commit b s = steps [step2, step3 b, step4 b] s := by
    unfold commit alive
    rw [h.ld, h.dd]
    simp only [Bool.or_self, Bool.false_eq_true, if_false]
    rw [steps, hstep1]; simp
  rw [hcom]
  have h2 : (∃ s2, step2 s = (s2, 0) ∧ Good (K + 1) s2 ∧ s2.1.headed = true ∧ s2.1.records = s.1.records ∧ s2.1.end' = s.1.end' ∧ s2.1.n = s.1.n ∧ s2.1.first = s.1.first ∧ Oth s.1.first s.1.n s.2 s2.2 ∧ (s.2.left < 0 → s2.2.left = s.2.left)) ∨
      (0 ≤ s.2.left ∧ ∃ s', step2 s = (s', 9) ∧ s'.2.dead = true ∧ s'.2.row.length ≤ 4096 ∧ s'.1.n = s.1.n ∧ s'.1.first = s.1.first ∧ ∀ fates, Back (K + 256) s.1.first s.1.n s.2 (s'.2.restart fates) s.1.records s.1.records) := by
    unfold step2
    cases hh : s.1.headed with
    | true =>
      left
      refine ⟨s, by simp, ⟨h.dd, h.row, h.fine, fun j hj => (h.pg j hj).mono (by omega)⟩, hh, rfl, rfl, rfl, rfl, Oth.refl _ _ _, fun _ => rfl⟩
    | false =>
      have hraw : s.1.records = [] ∧ s.1.end' = 1 := by
        have hh' : isHead (leavesOf (seenPages s.2 s.1.first s.1.n)) = false := by
          have := congrArg LogM.headed h.fine.1
          rw [hh] at this; exact this.symm
        rw [h.fine.1]
        refine ⟨?_, ?_⟩
        · show (if isHead _ then _ else _) = _; rw [hh']; rfl
        · show (if isHead _ then _ else _) = _; rw [hh']; rfl
      rcases head_cases h (by omega) with ⟨d', q1, q2, q3, q4⟩ | ⟨q0, d', q1, q2, qr, q3⟩
      · left
        refine ⟨(reheaded s.1, d'), ?_, q2, rfl, hraw.1.symm, hraw.2.symm, rfl, rfl, q3, q4⟩
        simp only [Bool.false_eq_true, if_false, q1, beq_self_eq_true]
        rw [reheaded, ← hraw.1, ← hraw.2]
      · right
        refine ⟨q0, ({ s.1 with stamp := s.1.stamp + 1#64, headed := false }, d'), by simp only [Bool.false_eq_true, if_false, q1]; rfl, q2, qr, rfl, rfl, fun fates => ?_⟩
        have := q3 fates
        rw [hraw.1] at this ⊢
        exact this
  rcases h2 with ⟨s2, e2, g2, hh2, r2, d2, n2, f2, o2, l2⟩ | ⟨q0, s', e2, g2, qr2, n2, f2, b2⟩
  · rw [steps, e2]
    simp only [ne_eq, not_true_eq_false, if_false]
    rcases step3_cases g2 hh2 (by omega) b (by rw [n2, d2]; omega) with ⟨d', q1, q2, q3, q4⟩ | ⟨q0, d', q1, q2, qr3, q3⟩
    · left
      refine ⟨by omega, (recorded s2.1 b, d'), ?_, q2, ?_, ?_, n2, f2, ?_, fun hl => ?_⟩
      · rw [steps, q1]
        simp [steps, step4, recorded]
      · show s2.1.records ++ [b] = _; rw [r2]
      · show s2.1.end' + many b = _; rw [d2]
      · rw [n2, f2] at q3; exact o2.trans q3
      · exact (q4 (by rw [l2 hl]; exact hl)).trans (l2 hl)
    · right
      refine ⟨?_, ({ s2.1 with stamp := s2.1.stamp + 1#64, dead := true }, d'), ?_, rfl, q2, qr3, n2, f2, fun fates => ?_⟩
      · by_cases hl : s.2.left < 0
        · rw [l2 hl] at q0; omega
        · omega
      · rw [steps, q1]; simp
      · have := q3 fates
        rw [n2, f2, r2] at this
        exact ⟨this.good, this.left, o2.trans this.oth, this.recs⟩
  · right
    refine ⟨q0, ({ s'.1 with dead := true }, s'.2), ?_, rfl, g2, qr2, n2, f2, fun fates => ?_⟩
    · rw [steps, e2]; simp
    · have := b2 fates
      refine ⟨⟨this.good.dd, this.good.row, this.good.fine, fun j hj => (this.good.pg j hj).mono (by omega)⟩, this.left, this.oth, ?_⟩
      rcases this.recs with hx | hx <;> exact .inl hx
/-- What Reset may come to. -/
theorem reset_cases {K : Nat} {s : LogM × DiskM} (h : Good K s) (hK : K + 1 < 65536) :
    (∃ s', reset s = (s', 0) ∧ Good (K + 1) s' ∧ s'.1.records = [] ∧ s'.1.end' = 1 ∧ s'.1.n = s.1.n ∧ s'.1.first = s.1.first ∧ Oth s.1.first s.1.n s.2 s'.2 ∧ (s.2.left < 0 → s'.2.left = s.2.left)) ∨
    (0 ≤ s.2.left ∧ ∃ s', reset s = (s', 9) ∧ s'.1.dead = true ∧ s'.2.dead = true ∧ s'.2.row.length ≤ 4096 ∧ s'.1.n = s.1.n ∧ s'.1.first = s.1.first ∧ ∀ fates, Back (K + 256) s.1.first s.1.n s.2 (s'.2.restart fates) s.1.records []) := by
  unfold reset alive
  rw [h.ld, h.dd]
  simp only [Bool.or_self, Bool.false_eq_true, if_false]
  rcases head_cases h hK with ⟨d', q1, q2, q3, q4⟩ | ⟨q0, d', q1, q2, qr, q3⟩
  · left
    refine ⟨(reheaded s.1, d'), ?_, q2, rfl, rfl, rfl, rfl, q3, q4⟩
    rw [steps, q1]; simp [steps, reset2, reheaded]
  · right
    refine ⟨q0, ({ s.1 with stamp := s.1.stamp + 1#64, dead := true }, d'), ?_, rfl, q2, qr, rfl, rfl, q3⟩
    rw [steps, q1]; simp
/-- Another part of the disk. -/
theorem Good.oth {K f n : Nat} {s : LogM × DiskM} {d' : DiskM} (h : Good K s) (ho : Oth f n s.2 d') (hd : d'.dead = false) (hr : d'.row = []) (hw : d'.wf) (hap : s.1.first + s.1.n ≤ f ∨ f + n ≤ s.1.first) : Good K (s.1, d') := by
  have hs : ∀ j, j < s.1.n → d'.seen (s.1.first + j) = s.2.seen (s.1.first + j) := fun j hj => ho.2 _ (by omega)
  refine ⟨hd, hr, ⟨?_, by show _ ≤ d'.pages.length; rw [ho.1]; exact h.fine.2.1, h.fine.2.2.1, hw⟩, fun j hj => ?_⟩
  · show s.1 = ofPages s.1.first (seenPages d' s.1.first s.1.n)
    have : seenPages d' s.1.first s.1.n = seenPages s.2 s.1.first s.1.n := seenPages_ext (length_seenPages _ _ _) fun j hj => by rw [get_seenPages _ _ _ _ hj, hs j hj]
    rw [this]; exact h.fine.1
  · show PageOk K (d'.seen (s.1.first + j))
    rw [hs j hj]; exact h.pg j hj
end LogM
end Go.Proofs.YtfgggkheadfiaaaR
/- The tries of layer 8's laws: how they are read; a row of tags above a bound. -/
namespace Go.Proofs.YtfgggkheadfiaaaR
open Go Go.RowKit
attribute [local go_sem ↓] Go.wp_at_zero Go.wp_at_succ

structure Try8 where
  reset : Bool
  b : UInt8
  n : Int
  fuse : Int
namespace Try8
def cells (a : Try8) : List Value := [.bool a.reset, .int .u8 (a.b.toNat : Int), .int .u16 a.n, .int .u8 a.fuse]
def ok (a : Try8) : Prop := (0 ≤ a.n ∧ a.n ≤ 65535) ∧ 0 ≤ a.fuse ∧ a.fuse ≤ 255
def text (a : Try8) : List UInt8 := fillM a.b (a.n % 3000).toNat
end Try8
/-- v reads as the tries l. -/
def Tries8 (w : World) (o : Own) (v : Value) (l : List Try8) : Prop :=
  ((∃ a c, v = .slice a 0 c) ∧ l = []) ∨ ∃ b off cap, v = .slice (some ⟨b, off, none⟩) l.length cap ∧ l.length ≤ cap ∧ cap ≤ maxLen ∧ (o b).1 = 0 ∧ b < w.heap.size ∧
    ∀ i (h : i < l.length), w.rangeAt b (off + i * 4) l[i].cells ∧ l[i].ok
section
variable {H : Type} {enc : TypeId × Value → H} {W : World}
end

/-- The tags above a bound: a call's own objects. -/
def Above (M : Nat) : Nat → Prop := fun k => M < k
section
variable {M : Nat} {w w1 : World} {o o1 : Own}
theorem Step.above0 (h : Step Nobody w o w1 o1) : Step (Above M) w o w1 o1 := h.mono fun _k hk => hk.elim
theorem Step.noneAbove (h : Step (Above M) w o w1 o1) (hM : ∀ k, k < w.heap.size → (o k).1 ≤ M) : Step Nobody w o w1 o1 :=
  ⟨h.os, h.tape, h.output, h.size, h.own, fun k hk _ => h.block k hk (fun hx => by have := hM k hk; change M < _ at hx; omega)⟩
end
end Go.Proofs.YtfgggkheadfiaaaR
/- The statement LogParts: two logs of one disk; the walk. -/
namespace Go.Proofs.YtfgggkheadfiaaaR
open Go Go.RowKit
attribute [local go_sem ↓] Go.wp_at_zero Go.wp_at_succ

namespace LogM
theorem ofPages_blank' (f k : Nat) : ofPages f (List.replicate k DiskM.blank) = raw f k 0 := by
  unfold ofPages raw
  rw [leaves_blank, newest_blank, List.length_replicate]; rfl
theorem pageOk_blank : PageOk 0 DiskM.blank := ⟨by decide +kernel, by decide +kernel, by decide +kernel, by decide +kernel⟩
theorem seen_new_at (k f n : Nat) (h : f + n ≤ k) : seenPages (DiskM.new k) f n = List.replicate n DiskM.blank := by
  refine seenPages_ext (by simp) fun j hj => ?_
  rw [List.getElem?_replicate, if_pos hj]
  simp [DiskM.seen, DiskM.seenIn, DiskM.new, show f + j < k by omega]
theorem wf_new {k : Nat} (h1 : 1 ≤ k) (h2 : k ≤ 4096) : (DiskM.new k).wf := by
  refine ⟨by simpa [DiskM.new] using h1, by simpa [DiskM.new] using h2, fun p hp => ?_, by simp [DiskM.new], by simp [DiskM.new], by simp [DiskM.new]⟩
  rw [List.eq_of_mem_replicate hp]; exact length_blank
theorem good_new {k f n : Nat} (h : f + n ≤ k) (hn : 2 ≤ n) (hk : k ≤ 4096) : Good 0 (raw f n 0, DiskM.new k) := by
  refine ⟨rfl, rfl, ⟨?_, by show f + n ≤ (DiskM.new k).pages.length; simpa [DiskM.new] using h, hn, wf_new (by omega) hk⟩, fun j hj => ?_⟩
  · show raw f n 0 = ofPages f (seenPages (DiskM.new k) f n)
    rw [seen_new_at k f n h, ofPages_blank']
  · have hj' : j < n := hj
    have : (DiskM.new k).seen (f + j) = DiskM.blank := by simp [DiskM.seen, DiskM.seenIn, DiskM.new, show f + j < k by omega]
    show PageOk 0 ((DiskM.new k).seen (f + j))
    rw [this]; exact pageOk_blank
theorem Good.mono {K K' : Nat} {s : LogM × DiskM} (h : Good K s) (hK : K ≤ K') : Good K' s := ⟨h.dd, h.row, h.fine, fun j hj => (h.pg j hj).mono hK⟩

/-- Two logs a, b of the disk d, and s, a log of its own, that does as a does. -/
structure Two8 (K : Nat) (a b : LogM) (d : DiskM) (s : LogM × DiskM) : Prop where
  ga : Good K (a, d)
  gb : Good K (b, d)
  gs : Good K s
  ld : d.left < 0
  ls : s.2.left < 0
  fa : a.first = 0 ∧ a.n = 8
  fb : b.first = 8 ∧ b.n = 8
  fs : s.1.n = 8
  re : s.1.records = a.records ∧ s.1.end' = a.end'
end LogM

end Go.Proofs.YtfgggkheadfiaaaR
/- The statement LogNil: acts of nil, of a dead disk; the walk. -/
namespace Go.Proofs.YtfgggkheadfiaaaR
open Go Go.RowKit
attribute [local go_sem ↓] Go.wp_at_zero Go.wp_at_succ

section
variable {w : World} {o : Own} {L D p pd : Nat} {s : LogM × DiskM}
end
/-- Whose blocks are that a call has made. -/
def extT (W : World) (o : Own) (t : Nat × Nat) : Own := fun k => if k < W.heap.size then o k else t
theorem Step.retag {T : Nat → Prop} {w w' : World} {o o' : Own} (hs : Step T w o w' o') (t : Nat × Nat) : Step T w o w' (extT w o t) := ⟨hs.os, hs.tape, hs.output, hs.size, fun _ hk => if_pos hk, hs.block⟩
theorem extT_new {W : World} {o : Own} {t : Nat × Nat} {k : Nat} (h : W.heap.size ≤ k) : extT W o t k = t := if_neg (by omega)

end Go.Proofs.YtfgggkheadfiaaaR
/- Regions that draw their order, as in Mid, where only such sets of operations are looked at as hold, with each operation, what it waits for. -/
namespace Go.Proofs.YtfgggkheadfiaaaR
open Go Go.RowKit

section
variable {P : Program} {ops : Array Oper} {Q : Exit → Act → World → Prop} {md : Region.Mode} {S : World → Prop} {need : Nat → Bool}
/-- With each operation that has come up, those that it waits for have. -/
def Shut (md : Region.Mode) (ops : Array Oper) (idx : List Nat) (s : List Bool) : Prop := ∀ (k i : Nat), s[k]? = some true → idx[k]? = some i → ∀ (j i' : Nat), idx[j]? = some i' → depOn md ops i i' = true → s[j]? = some true
def shutB (md : Region.Mode) (ops : Array Oper) (idx : List Nat) (s : List Bool) : Bool :=
  idx.zipIdx.all fun x => idx.zipIdx.all fun y => !(s.getD x.2 false) || !(depOn md ops x.1 y.1) || s.getD y.2 false
def midOkC (md : Region.Mode) (ops : Array Oper) (l : Array Bool) (idx : List Nat) (dsts : List Nat) : Bool :=
  (idx.length == dsts.length) && decide idx.Nodup && decide dsts.Nodup && (idx.all fun i => !l.getD i false) && ((idx.zip dsts).all fun x => match ops[x.1]? with | some o => o.dst == some x.2 | none => false) &&
  (boolLists idx.length).all fun s => !(shutB md ops idx s) || (s.all (fun b => b) || (let rd := Region.ready md ops (listedOf l idx s); !rd.isEmpty && rd.all (fun i => idx.contains i)))

end
end Go.Proofs.YtfgggkheadfiaaaR
/- What the walk of LogPower needs besides: appending to an empty row, reading new leftovers. -/
namespace Go.Proofs.YtfgggkheadfiaaaR
open Go Go.RowKit

theorem ownsRow_low {w : World} {b b' e size n : Nat} {v : Value} {xs : List Value} (h : w.ownsRow b e size v n xs) (hb : b' ≤ b) : w.ownsRow b' e size v n xs := by
  refine ⟨h.1, ?_⟩
  rcases h.2 with hn | ⟨g, cap, cur, rfl, h1, rest⟩
  · exact .inl hn
  · exact .inr ⟨g, cap, cur, rfl, Nat.le_trans hb h1, rest⟩
namespace LogM
theorem Good.fuse {K : Nat} {l : LogM} {d : DiskM} (h : Good K (l, d)) (n : Int) (hn : n ≤ 9223372036854775807) : Good K (l, d.fuse n) := by
  have hd : d.dead = false := h.dd
  have e : d.fuse n = { d with left := max (-1) n } := by unfold DiskM.fuse; rw [hd]; rfl
  obtain ⟨h1, h2, ⟨h3, h4, h5, h6⟩, h7⟩ := h
  rw [e]
  refine ⟨hd, h2, ⟨h3, h4, h5, ?_⟩, h7⟩
  obtain ⟨q1, q2, q3, q4, q5, q6⟩ := h6
  exact ⟨q1, q2, q3, q4, by show -1 ≤ max (-1) n; omega, by show max (-1) n ≤ _; omega⟩
theorem _root_.Go.Proofs.YtfgggkheadfiaaaR.DiskM.fuse_pages (d : DiskM) (n : Int) : (d.fuse n).pages = d.pages := by unfold DiskM.fuse; split <;> rfl
end LogM
end Go.Proofs.YtfgggkheadfiaaaR
/- Lines of a store: how they lie in memory, and as bytes; contracts: wire.Byte, wire.Text, store.lines, Clone of lines. -/
namespace Go.Proofs.YtfgggkheadfiaaaR
open Go Go.RowKit
attribute [local go_sem ↓] Go.wp_at_zero Go.wp_at_succ

structure LineM where
  e : BitVec 64
  b : List UInt8
/-- Its own block, if it has one, is not older. -/
def Fresh (base : Nat) (v : Value) : Prop := ∀ k, v.ownBlock = some k → base ≤ k
theorem Fresh.zero (v : Value) : Fresh 0 v := fun _ _ => Nat.zero_le _
theorem Fresh.low {a b : Nat} {v : Value} (h : Fresh a v) (hb : b ≤ a) : Fresh b v := fun k hk => Nat.le_trans hb (h k hk)
theorem Fresh.own {w : World} {base b e size n : Nat} {v : Value} {xs : List Value} (h : w.ownsRow b e size v n xs) (hb : base ≤ b) : Fresh base v := fun k hk => Nat.le_trans hb (h.lt k hk).1
theorem Fresh.int (base : Nat) (k : IntKind) (n : Int) : Fresh base (.int k n) := fun k hk => by simp [Value.ownBlock] at hk
theorem Fresh.nil (base : Nat) (n c : Nat) : Fresh base (.slice none n c) := fun k hk => by simp [Value.ownBlock] at hk
def LnC (w : World) (o : Own) (cs : List Value) (ls : List LineM) : Prop :=
  cs.length = 2 * ls.length ∧ ∀ i x, ls[i]? = some x → cs[2 * i]? = some (.int .u64 (x.e.toNat : Int)) ∧ ∃ bv, cs[2 * i + 1]? = some bv ∧ Bytes w o bv x.b
theorem LnC.step {T : Nat → Prop} {w w' : World} {o o' : Own} {cs : List Value} {ls : List LineM} (h : LnC w o cs ls) (s : Step T w o w' o') (hT : ¬ T 0) : LnC w' o' cs ls :=
  ⟨h.1, fun i x hx => by
    obtain ⟨h1, bv, h2, h3⟩ := h.2 i x hx
    exact ⟨h1, bv, h2, h3.step s hT⟩⟩
theorem LnC.nil (w : World) (o : Own) : LnC w o [] [] := ⟨rfl, by simp⟩
theorem LnC.one {w : World} {o : Own} {cs : List Value} {ls : List LineM} (h : LnC w o cs ls) : ∀ u ∈ cs, u.oneCell' = true := by
  intro u hu
  obtain ⟨j, hj⟩ := List.mem_iff_getElem?.1 hu
  have hjl := (List.getElem?_eq_some_iff.1 hj).1
  have hi : j / 2 < ls.length := by have := h.1; omega
  obtain ⟨h1, bv, h2, h3⟩ := h.2 (j / 2) _ (List.getElem?_eq_getElem hi)
  by_cases hp : 2 * (j / 2) = j
  · rw [hp, hj] at h1; cases h1; rfl
  · have hq : 2 * (j / 2) + 1 = j := by omega
    rw [hq, hj] at h2; cases h2
    obtain ⟨a, c, rfl⟩ := slc_form h3; rfl
theorem LnC.append {w : World} {o : Own} {c1 c2 : List Value} {l1 l2 : List LineM} (h1 : LnC w o c1 l1) (h2 : LnC w o c2 l2) : LnC w o (c1 ++ c2) (l1 ++ l2) := by
  refine ⟨by simp [h1.1, h2.1]; omega, fun i x hx => ?_⟩
  by_cases hi : i < l1.length
  · rw [List.getElem?_append_left hi] at hx
    obtain ⟨a, bv, b, c⟩ := h1.2 i x hx
    have := h1.1
    exact ⟨by rw [List.getElem?_append_left (by omega)]; exact a, bv, by rw [List.getElem?_append_left (by omega)]; exact b, c⟩
  · rw [List.getElem?_append_right (by omega)] at hx
    obtain ⟨a, bv, b, c⟩ := h2.2 _ x hx
    have := h1.1
    refine ⟨?_, bv, ?_, c⟩
    · rw [List.getElem?_append_right (by omega), show 2 * i - c1.length = 2 * (i - l1.length) from by omega]; exact a
    · rw [List.getElem?_append_right (by omega), show 2 * i + 1 - c1.length = 2 * (i - l1.length) + 1 from by omega]; exact b
theorem LnC.single {w : World} {o : Own} {bv : Value} (x : LineM) (h : Bytes w o bv x.b) : LnC w o [.int .u64 (x.e.toNat : Int), bv] [x] := by
  refine ⟨rfl, fun i y hy => ?_⟩
  cases i with
  | zero => simp only [List.getElem?_cons_zero, Option.some.injEq] at hy; subst hy; exact ⟨rfl, bv, rfl, h⟩
  | succ i => simp at hy
/-- v reads as the lines ls: plain data, none of it older than base. -/
def Lines (w : World) (o : Own) (base : Nat) (v : Value) (ls : List LineM) : Prop := ∃ cs, Slc w o v ls.length cs ∧ LnC w o cs ls ∧ Fresh base v ∧ ∀ u ∈ cs, Fresh base u
theorem Lines.step {T : Nat → Prop} {w w' : World} {o o' : Own} {base : Nat} {v : Value} {ls : List LineM} (h : Lines w o base v ls) (s : Step T w o w' o') (hT : ¬ T 0) : Lines w' o' base v ls := by
  obtain ⟨cs, h1, h2, h3, h4⟩ := h
  exact ⟨cs, h1.step s hT, h2.step s hT, h3, h4⟩
theorem Lines.low {w : World} {o : Own} {base b : Nat} {v : Value} {ls : List LineM} (h : Lines w o base v ls) (hb : b ≤ base) : Lines w o b v ls := by
  obtain ⟨cs, h1, h2, h3, h4⟩ := h
  exact ⟨cs, h1, h2, h3.low hb, fun u hu => (h4 u hu).low hb⟩
theorem Lines.nil (w : World) (o : Own) (base : Nat) : Lines w o base (.slice none 0 0) [] := ⟨[], .inl ⟨⟨_, _, rfl⟩, rfl, rfl⟩, LnC.nil w o, Fresh.nil _ _ _, by simp⟩
theorem Lines.form {w : World} {o : Own} {base : Nat} {v : Value} {ls : List LineM} (h : Lines w o base v ls) : ∃ a c, v = .slice a ls.length c := by
  obtain ⟨cs, h1, -⟩ := h; exact slc_form h1
/-- One of the lines. -/
theorem Lines.at {w : World} {o : Own} {base : Nat} {a : Option Addr} {n c : Nat} {ls : List LineM} (h : Lines w o base (.slice a n c) ls) {i : Nat} {x : LineM} (hx : ls[i]? = some x) :
    ∃ b off bv, a = some ⟨b, off, none⟩ ∧ w.rangeAt b (off + i * 2) [.int .u64 (x.e.toNat : Int), bv] ∧ Bytes w o bv x.b ∧ Fresh base bv ∧ b < w.heap.size ∧ (o b).1 = 0 := by
  obtain ⟨cs, h1, h2, h3, h4⟩ := h
  have hi := (List.getElem?_eq_some_iff.1 hx).1
  obtain ⟨k1, bv, k2, k3⟩ := h2.2 i x hx
  rcases h1 with ⟨_, h0, -⟩ | ⟨b, off, cap, hv, y1, y2, y3, y4, y5⟩
  · omega
  · simp only [Value.slice.injEq] at hv
    obtain ⟨rfl, rfl, rfl⟩ := hv
    refine ⟨b, off, bv, rfl, fun j v hj => ?_, k3, h4 bv (List.mem_of_getElem? k2), y4, y3⟩
    match j with
    | 0 => simp only [List.getElem?_cons_zero, Option.some.injEq] at hj; subst hj; have := y5 _ _ k1; rw [Nat.mul_comm] at this; exact this
    | 1 => simp only [List.getElem?_cons_succ, List.getElem?_cons_zero, Option.some.injEq] at hj; subst hj; have := y5 _ _ k2; rw [Nat.mul_comm, ← Nat.add_assoc] at this; exact this
    | j + 2 => simp at hj

/-! ### As bytes -/
def LineM.enc (x : LineM) : List UInt8 := be 8 x.e ++ (be 4 (BitVec.ofNat 64 x.b.length) ++ x.b)
def encs (ls : List LineM) : List UInt8 := ls.flatMap LineM.enc
def encL (ls : List LineM) : List UInt8 := be 8 (BitVec.ofNat 64 ls.length) ++ encs ls
theorem length_enc (x : LineM) : x.enc.length = 12 + x.b.length := by simp [LineM.enc, length_be]; omega
theorem encs_snoc (ls : List LineM) (x : LineM) : encs (ls ++ [x]) = encs ls ++ x.enc := by simp [encs]
theorem encs_take_le (ls : List LineM) (k : Nat) : (encs (ls.take k)).length ≤ (encs ls).length := by
  have : encs ls = encs (ls.take k) ++ encs (ls.drop k) := by unfold encs; rw [← List.flatMap_append, List.take_append_drop]
  rw [this, List.length_append]; omega
theorem be_one (c : UInt8) : be 1 (BitVec.ofNat 64 c.toNat) = [c] := by
  have : (BitVec.ofNat 64 c.toNat).toNat = c.toNat := by have := c.toNat_lt; rw [BitVec.toNat_ofNat]; omega
  show [beB (BitVec.ofNat 64 c.toNat) 0] = [c]
  congr 1
  apply UInt8.toNat_inj.1
  rw [beB_toNat, this]; simp
theorem NewB.low {w w1 w2 : World} {o : Own} {v : Value} {l : List UInt8} (h : NewB w1 w2 o v l) (hs : w.heap.size ≤ w1.heap.size) : NewB w w2 o v l := ⟨ownsRow_low h.1 hs, h.2⟩
theorem NewB.step {T : Nat → Prop} {w w1 w2 : World} {o1 o2 : Own} {v : Value} {l : List UInt8} (h : NewB w w1 o1 v l) (s : Step T w1 o1 w2 o2) (hT : ¬ T 0) : NewB w w2 o2 v l :=
  ⟨ownsRow_same h.1 fun k hk => s.block k (h.1.lt k hk).2 (by rw [h.2 k hk]; exact hT), fun k hk => by rw [s.own k (h.1.lt k hk).2]; exact h.2 k hk⟩
theorem NewB.cap {w w1 : World} {o : Own} {v : Value} {l : List UInt8} (h : NewB w w1 o v l) : capLe v := fun a n c e => by
  rcases h.1.2 with ⟨h1, h0⟩ | ⟨g, cap, cur, h1, q1, q2, q3, q4, -⟩
  · rw [e] at h1; cases h1; omega
  · rw [e] at h1; cases h1; simp only [maxLen] at q4; omega
theorem NewB.fresh {w w1 : World} {o : Own} {v : Value} {l : List UInt8} (h : NewB w w1 o v l) : Fresh w.heap.size v := Fresh.own h.1 (Nat.le_refl _)
theorem NewB.congr {w w1 : World} {o : Own} {v : Value} {l l' : List UInt8} (h : NewB w w1 o v l) (e : l = l') : NewB w w1 o v l' := e ▸ h

set_option maxRecDepth 100000 in
set_option maxHeartbeats 1600000 in
theorem wbyte_any {w : World} {o : Own} {v : Value} {l : List UInt8} (h : Bytes w o v l) (hll : l.length ≤ 4000000) (c : UInt8) :
    Calls Try.prog 105 #[v, .int .u8 (c.toNat : Int)] w (Ret Nobody w o fun v w' o' => NewB w w' o' v (l ++ [c])) := by
  have hc := wnumber_any h hll (BitVec.ofNat 64 c.toNat) 1 (by omega)
  rw [be_one, ofU8] at hc
  have hcl := c.toNat_lt
  have hc0 : (0 : Int) ≤ (c.toNat : Int) ∧ (c.toNat : Int) < 256 := by omega
  go_enter Try.func105, Try.ntmps105
  go_wp2_with fail
  refine hc.mono ?_; rintro e w1 ⟨v1, o1, rfl, hs, hn⟩
  go_wp2_with fail
  go_ret
  exact ⟨_, o1, rfl, hs, hn⟩
set_option maxRecDepth 100000 in
set_option maxHeartbeats 1600000 in
theorem wtext_any {w : World} {o : Own} {v sv : Value} {l s : List UInt8} (h : Bytes w o v l) (hs : Bytes w o sv s) (hll : l.length ≤ 4000000) (hsl : s.length ≤ 4000000) :
    Calls Try.prog 137 #[v, sv] w (Ret Nobody w o fun v w' o' => NewB w w' o' v (l ++ (be 4 (BitVec.ofNat 64 s.length) ++ s))) := by
  have hc := wnumber_any h hll (BitVec.ofNat 64 s.length) 4 (by omega)
  have e1 : ((BitVec.ofNat 64 s.length).toNat : Int) = (s.length : Int) := by rw [BitVec.toNat_ofNat, Nat.mod_eq_of_lt (by omega)]
  rw [e1] at hc
  obtain ⟨sa, sc, rfl⟩ := slc_form hs
  obtain ⟨P, hP⟩ : ∃ P, l ++ be 4 (BitVec.ofNat 64 s.length) = P := ⟨_, rfl⟩
  have hPl : P.length = l.length + 4 := by rw [← hP]; simp [length_be]
  have hfin : l ++ (be 4 (BitVec.ofNat 64 s.length) ++ s) = P ++ s := by rw [← hP, List.append_assoc]
  rw [hP] at hc
  rw [hfin]
  have hsH := hidden hs
  have hcH := hidden hc
  have hsn : (0 : Int) ≤ (s.length : Int) ∧ (s.length : Int) ≤ 4000000 := by omega
  have hPlH := hidden hPl
  clear hs hc e1 hP hPl hfin
  go_enter Try.func137, Try.ntmps137
  go_wp2_with fail
  refine hcH.out.mono ?_; rintro e w1 ⟨v1, o1, rfl, hst, hn⟩
  obtain ⟨a1, c1, rfl⟩ := own_form hn.1
  have hsb := hsH.out.step hst (fun h => h)
  have hcap : P.length ≤ c1 := by
    have := hPlH.out
    rcases hn.1.2 with ⟨h1, h0⟩ | ⟨g, cap, cur, h1, q1, q2, q3, q4, -⟩
    · omega
    · simp only [Value.slice.injEq] at h1; obtain ⟨-, -, rfl⟩ := h1; exact q3
  have key : ∃ nv w2 o2, (Builtin.append_ #[28, 28] 28 #[.slice a1 P.length c1, .slice sa s.length sc]).run Try.prog w1 = .ok nv w2 ∧ Step Nobody w o w2 o2 ∧ NewB w w2 o2 nv (P ++ s) := by
    have hlen := hPlH.out
    by_cases h0 : s.length = 0
    · have hs0 := List.eq_nil_of_length_eq_zero h0
      subst hs0
      exact ⟨_, w1, o1, run_append_none (P := Try.prog) w1 28 28 5 1 Try.underlying28 (by kernel_rfl) a1 sa _ c1 sc hcap (by omega), hst, hn.congr (by simp)⟩
    · rcases hsb.cases with ⟨_, h1⟩ | ⟨b, off, cap, e0, x1, x2, x3, x4, x5⟩
      · subst h1; exact absurd rfl h0
      · simp only [Value.slice.injEq, true_and] at e0
        obtain ⟨rfl, rfl⟩ := e0
        obtain ⟨g, cp, w2, hrun, hown, hgrow, -, -⟩ := run_append_bytes w1 hst.size _ _ _ hn.1 b off s.length sc s rfl x5 (by omega) (by omega)
        have hb : Below w.heap.size w w2 := hst.below.grown hgrow hst.size (fun k hk => (hn.1.lt k hk).1)
        refine ⟨_, w2, ext w o, hrun, ⟨hb.os, hb.tape, hb.output, hb.size, fun k hk => if_pos hk, fun k hk _ => hb.block k hk⟩, ?_, fun k hk => if_neg (by have := (hown.lt k hk).1; omega)⟩
        rw [List.length_append]; exact hown
  obtain ⟨nv, w2, o2, hrun, hst2, hn2⟩ := key
  have hrunH := hidden hrun
  clear hrun hn hst hsb hcH
  go_wp2_with ((with_reducible apply lit_append); exact hrunH.out; simp only [Act.put, List.setIfInBounds_toArray, List.set_cons_zero, List.set_cons_succ])
  go_ret
  exact ⟨_, o2, rfl, hst2, hn2⟩
theorem inf113 : (Try.prog.info? 113).map (fun i => (i.zero.map (fun z => z.cells.toList), i.size, i.bytes)) = some (some [.int .u64 0, .slice none 0 0], 2, 32) := by kernel_rfl
theorem zc113 : ((Try.prog.info? 113).bind (·.zero)).map (·.cells) = some #[.int .u64 0, .slice none 0 0] := by kernel_rfl
theorem load113 {w : World} {b off : Nat} {e : Int} {bv : Value} (hr : w.rangeAt b off [.int .u64 e, bv]) : (Instr.loadAt 113 (.pointer (some ⟨b, off, none⟩))).run Try.prog w = .ok (.agg #[.int .u64 e, bv]) w := by
  simp only [Instr.loadAt, Instr.sureAddr, Sem.run_bind, Sem.run_pure, Result.andThen_ok]
  exact run_loadVar_mid w b off 113 [.int .u64 e, bv] _ hr Try.underlying113 rfl (by kernel_rfl)
set_option maxRecDepth 100000 in
set_option maxHeartbeats 3200000 in
theorem slines_any {w : World} {o : Own} {v lv : Value} {base : Nat} {l : List UInt8} {ls : List LineM} (h : Bytes w o v l) (hl : Lines w o base lv ls) (hll : l.length + 8 + (encs ls).length ≤ 4000000) (hn : ls.length ≤ 100000) :
    Calls Try.prog 108 #[v, lv] w (Ret Nobody w o fun v w' o' => NewB w w' o' v (l ++ encL ls)) := by
  obtain ⟨la, lc, rfl⟩ := hl.form
  have hc := wuint_any h (by omega) (BitVec.ofNat 64 ls.length)
  have e1 : ((BitVec.ofNat 64 ls.length).toNat : Int) = (ls.length : Int) := by rw [BitVec.toNat_ofNat, Nat.mod_eq_of_lt (by omega)]
  rw [e1] at hc
  obtain ⟨P, hP⟩ : ∃ P, l ++ be 8 (BitVec.ofNat 64 ls.length) = P := ⟨_, rfl⟩
  have hPl : P.length = l.length + 8 := by rw [← hP]; simp [length_be]
  have hfin : l ++ encL ls = P ++ encs ls := by rw [← hP]; simp [encL]
  rw [hfin]
  rw [hP] at hc
  obtain ⟨N, hN⟩ : ∃ N, ls.length = N := ⟨_, rfl⟩
  rw [hN] at hc hn ⊢
  have hall : ls.take N = ls := List.take_of_length_le (by omega)
  have hlH := hidden hl
  have hNH := hidden hN
  have hcH := hidden hc
  have hallH := hidden hall
  have hPlH := hidden hPl
  have hllH := hidden hll
  have hNb : (0 : Int) ≤ (N : Int) ∧ (N : Int) ≤ 100000 := by omega
  clear hl hN hc hall hP hPl hfin hll e1 h
  rw [hNH.out] at hlH
  go_enter Try.func108, Try.ntmps108
  go_wp2_with fail
  refine hcH.out.mono ?_; rintro e w1 ⟨v1, o1, rfl, hst, hnb⟩
  clear hcH
  go_wp2_with fail
  go_loopw [0, 14] (fun bv i wr => ∃ (k : Nat) (oj : Own), k ≤ N ∧ i = .int .i64 k ∧ Step Nobody w o wr oj ∧ NewB w wr oj bv (P ++ encs (ls.take k))) (fun _ i _ => N - (intOf i).toNat)
  case atStart => exact ⟨0, o1, by omega, rfl, hst, hnb.congr (by simp [encs])⟩
  case round =>
    clear hst hnb
    obtain ⟨k, oj, hk, rfl, hst, hnb⟩ := hrel
    by_cases hlt : k < N
    · obtain ⟨x, hx⟩ : ∃ x, ls[k]? = some x := ⟨_, List.getElem?_eq_getElem (by rw [hNH.out]; exact hlt)⟩
      obtain ⟨b, off, xv, hab, hrg, hby, -, -, -⟩ := (hlH.out.step hst (fun h => h)).at hx
      subst hab
      have hld := hidden (load113 hrg)
      have hal := hidden (run_alloc_zero (P := Try.prog) wr 113 _ zc113)
      have hsw := setCells_alloc_whole wr #[.int .u64 0, .slice none 0 0] 113 [.int .u64 (x.e.toNat : Int), xv] rfl
      have h1c : [Value.int .u64 (x.e.toNat : Int), xv].all (·.oneCell') = true := by obtain ⟨xa, xc, rfl⟩ := slc_form hby; rfl
      obtain ⟨hso, -⟩ := run_store_agg (P := Try.prog) (ty := 113) (vs := [.int .u64 (x.e.toNat : Int), xv]) (heap_alloc_new wr (.cells [.int .u64 0, .slice none 0 0].toArray 113)) rfl (by kernel_rfl) h1c
      rw [hsw] at hso
      have hsoH := hidden hso
      have hsa := (Step.refl Nobody wr oj).alloc (.cells [Value.int .u64 (x.e.toNat : Int), xv].toArray 113) (0, 0)
      have hab : (wr.alloc (.cells [Value.int .u64 (x.e.toNat : Int), xv].toArray 113)).heap[wr.heap.size]? = some (.cells [Value.int .u64 (x.e.toNat : Int), xv].toArray 113 (0, 0)) := heap_alloc_new wr _
      have hby := hby.step hsa (fun h => h)
      have hnb := hnb.step hsa (fun h => h)
      have hst := hst.trans hsa
      have hszr := hst.size
      obtain ⟨ab, habE⟩ : ∃ ab, wr.heap.size = ab := ⟨_, rfl⟩
      obtain ⟨W1, hW1⟩ : ∃ W1, wr.alloc (.cells [Value.int .u64 (x.e.toNat : Int), xv].toArray 113) = W1 := ⟨_, rfl⟩
      rw [hW1] at hsoH hab hby hnb hst hszr
      rw [habE] at hab hby hnb hst
      generalize tagAt oj ab (0, 0) = O1 at *
      have hsn : encs (ls.take (k + 1)) = encs (ls.take k) ++ x.enc := by rw [List.take_add_one, hx]; exact encs_snoc _ _
      have hle := encs_take_le ls (k + 1)
      rw [hsn, List.length_append, length_enc] at hle
      have hle2 : P.length + (encs (ls.take k)).length + 12 + x.b.length ≤ 4000000 := by have := hPlH.out; have := hllH.out; omega
      obtain ⟨pre, hpre⟩ : ∃ pre, P ++ encs (ls.take k) = pre := ⟨_, rfl⟩
      have hprel : pre.length = P.length + (encs (ls.take k)).length := by rw [← hpre, List.length_append]
      rw [hpre] at hnb
      have hbyH := hidden hby
      have habH := hidden habE
      have hfinH := hidden (show P ++ encs (ls.take (k + 1)) = pre ++ x.enc by rw [hsn, ← hpre, List.append_assoc])
      have hlenH := hidden (show pre.length + 12 + x.b.length ≤ 4000000 by omega)
      clear hsw hso hrg hsa habE hW1 hsn hle hle2 hpre hprel h1c hby hx
      have c0 : W1.cell? ⟨ab, 0, none⟩ = some (.int .u64 (x.e.toNat : Int)) := cell_of_block hab 0
      have c1 : W1.cell? ⟨ab, 1, none⟩ = some xv := cell_of_block hab 1
      go_wp2_with (first
        | ((with_reducible apply lit_load); exact hld.out; simp only [Act.put, List.setIfInBounds_toArray, List.set_cons_zero, List.set_cons_succ])
        | ((with_reducible apply lit_alloc); exact hal.out; simp only [Act.put, List.setIfInBounds_toArray, List.set_cons_zero, List.set_cons_succ])
        | ((with_reducible apply lit_store); exact hsoH.out; simp only [Act.put]))
      rw [habH.out]
      clear hld hal hsoH habH
      refine wp_region_need (fun w' => w'.cell? ⟨ab, 0, none⟩ = some (.int .u64 (x.e.toNat : Int)) ∧ w'.cell? ⟨ab, 1, none⟩ = some xv) (fun _ => true) (by kernel_rfl) ⟨c0, c1⟩ (fun hHeld => ?_)
      refine wpAnyN_tk (i := 0) (v := ?_) rfl (by kernel_rfl) (fun _ _ _ h => h) (Or.inl ⟨by rfl, ?_⟩) (by assumption) ?_
      rotate_left
      · intro w hSw; ((try dsimp only at hSw); go_simp; (try with_reducible rfl))
      simp only [Act.put, List.setIfInBounds_toArray, List.set_cons_zero, List.set_cons_succ]
      refine wpAnyN_tk (i := 1) (v := ?_) rfl (by kernel_rfl) (fun _ _ _ h => h) (Or.inl ⟨by rfl, ?_⟩) (by assumption) ?_
      rotate_left
      · intro w hSw; ((try dsimp only at hSw); go_simp; (try with_reducible rfl))
      simp only [Act.put, List.setIfInBounds_toArray, List.set_cons_zero, List.set_cons_succ]
      refine wpAnyN_tk (i := 2) (v := ?_) rfl (by kernel_rfl) (fun _ _ _ h => h) (Or.inl ⟨by rfl, ?_⟩) (by assumption) ?_
      rotate_left
      · intro w hSw; ((try dsimp only at hSw); go_simp; (try with_reducible rfl))
      simp only [Act.put, List.setIfInBounds_toArray, List.set_cons_zero, List.set_cons_succ]
      refine wpAnyN_tk (i := 4) (v := ?_) rfl (by kernel_rfl) (fun _ _ _ h => h) (Or.inl ⟨by rfl, ?_⟩) (by assumption) ?_
      rotate_left
      · intro w hSw; ((try dsimp only at hSw); go_simp; (try with_reducible rfl))
      simp only [Act.put, List.setIfInBounds_toArray, List.set_cons_zero, List.set_cons_succ]
      refine wpAnyN_tk (i := 5) (v := ?_) rfl (by kernel_rfl) (fun _ _ _ h => h) (Or.inl ⟨by rfl, ?_⟩) (by assumption) ?_
      rotate_left
      · intro w hSw; ((try dsimp only at hSw); go_simp; (try with_reducible rfl))
      simp only [Act.put, List.setIfInBounds_toArray, List.set_cons_zero, List.set_cons_succ]
      refine wpAnyN_one (i := 3) rfl (by kernel_rfl) ?_
      go_wp2_with fail
      have hdr := (Step.refl Nobody W1 O1).drew
      refine (wuint_any (hnb.step hdr (fun h => h)).bytes (by have := hlenH.out; omega) x.e).mono ?_; rintro e w2 ⟨v2, o2, rfl, hs2, hnb2⟩
      have hs2 := hdr.trans hs2
      have hab2 := (hs2.block ab (lt_of_block hab) (fun h => h)).trans hab
      have hS2 := And.intro (cell_of_block (i := 0) hab2) (cell_of_block (i := 1) hab2)
      have hby2 := hidden (hbyH.out.step hs2 (fun h => h))
      have hst := hst.trans hs2
      clear hs2 hdr hHeld
      go_wp2_with fail
      refine ⟨fun _ => hS2, ?_⟩
      refine wpAnyN_one (i := 6) rfl (by kernel_rfl) ?_
      go_wp2_with fail
      refine (wtext_any hnb2.bytes hby2.out (by rw [List.length_append, length_be]; have := hlenH.out; omega) (by have := hlenH.out; omega)).mono ?_; rintro e w3 ⟨v3, o3, rfl, hs3, hnb3⟩
      have hab3 := (hs3.block ab (lt_of_block hab2) (fun h => h)).trans hab2
      have hS3 := And.intro (cell_of_block (i := 0) hab3) (cell_of_block (i := 1) hab3)
      have hnb4 := (hnb3.low hst.size).congr (l' := P ++ encs (ls.take (k + 1))) (by rw [hfinH.out]; simp [LineM.enc])
      have hst := hst.trans hs3
      clear hs3 hnb3 hnb2 hS2
      go_wp2_with fail
      refine ⟨fun _ => hS3, ?_⟩
      refine wpAnyN_tk (i := 7) (v := ?_) rfl (by kernel_rfl) (fun _ _ _ h => h) (Or.inl ⟨by rfl, ?_⟩) (by assumption) ?_
      rotate_left
      · intro w hSw; ((try dsimp only at hSw); go_simp; (try with_reducible rfl))
      simp only [Act.put, List.setIfInBounds_toArray, List.set_cons_zero]
      refine wpAnyN_done (by kernel_rfl) ?_ _
      clear hS3 hab hab2 hab3 c0 c1 hnb
      go_wp2_with fail
      go_roundw
      case rel => exact ⟨k + 1, o3, by omega, by go_num, hst, hnb4⟩
      case measure => simp [intOf]; omega
    · obtain rfl : N = k := by omega
      rw [hallH.out] at hnb
      go_wp2_with fail
      go_ret
      exact ⟨_, oj, rfl, hst, hnb⟩
end Go.Proofs.YtfgggkheadfiaaaR
/- The document's own disk (strings for pages) as it lies in memory, and contracts of its small functions: counts, Fuse, Seen, Read. It computes the same plain functions as the disk. -/
namespace Go.Proofs.YtfgggkheadfiaaaR
open Go Go.RowKit
attribute [local go_sem ↓] Go.wp_at_zero Go.wp_at_succ

def str (l : List UInt8) : Value := .string ⟨l.toArray⟩
def strs (ps : List (List UInt8)) : List Value := ps.map str
def refCells (row : List (Nat × List UInt8)) : List Value := row.flatMap fun x => [Value.int .i64 (x.1 : Int), str x.2]

/-- The document's disk d lies at block p; its blocks are the object E's. -/
def RefAt (w : World) (o : Own) (E p : Nat) (d : DiskM) : Prop :=
  ∃ pv rv,
    w.heap[p]? = some (.cells #[pv, rv, .int .i64 d.left, .bool d.dead] 51 (0, 0)) ∧
    w.ownsRow 0 9 1 pv d.pages.length (strs d.pages) ∧ w.ownsRow 0 174 2 rv d.row.length (refCells d.row) ∧
    o p = (E, 0) ∧ (∀ k, pv.ownBlock = some k → o k = (E, 1)) ∧ (∀ k, rv.ownBlock = some k → o k = (E, 2)) ∧ d.wf






end Go.Proofs.YtfgggkheadfiaaaR
/- Contracts of the document's own disk: New, Write. -/
namespace Go.Proofs.YtfgggkheadfiaaaR
open Go Go.RowKit
attribute [local go_sem ↓] Go.wp_at_zero Go.wp_at_succ


theorem exec_convert {P : Program} {a : Act} {op : Oper} {w w' : World} (t u : TypeId) (x : Operand) (ho : op.op = .convert t u x) {v : Value} (h : (convert t u (a.eval x)).run P w = .ok v w') : (execOp a.eval op).run P w = .ok (.value v) w' := by
  unfold execOp
  simp only [ho, Sem.run_bind, h, Result.andThen_ok, Sem.run_pure]
/-- Own of the new object. -/
def newOwn (o : Own) (n p E : Nat) (pv : Value) : Own := fun k => if k < n then o k else if k = p then (E, 0) else if pv.ownBlock = some k then (E, 1) else (0, 0)





end Go.Proofs.YtfgggkheadfiaaaR
/- Contracts of the document's own disk: Sync, Restart. -/
namespace Go.Proofs.YtfgggkheadfiaaaR
open Go Go.RowKit
attribute [local go_sem ↓] Go.wp_at_zero Go.wp_at_succ

theorem run_str_add (w : World) (l m : List UInt8) (hn : l.length + m.length ≤ 4000000) : (binOp .add 9 (str l) (str m)).run Try.prog w = .ok (str (l ++ m)) w := by
  have hs : ∀ l : List UInt8, (⟨l.toArray⟩ : ByteArray).size = l.length := fun l => by simp [ByteArray.size]
  have hx : (⟨l.toArray⟩ : ByteArray) ++ (⟨m.toArray⟩ : ByteArray) = ⟨(l ++ m).toArray⟩ := by
    apply ByteArray.ext; simp
  simp only [binOp, str, Op.stringOp, hs]
  rw [if_neg (by simp [IntKind.max, IntKind.bits, IntKind.signed]; omega)]
  rw [hx]; simp
theorem exec_add {P : Program} {a : Act} {op : Oper} {w w' : World} (t u : TypeId) (x y : Operand) (ho : op.op = .binOp .add t x y u) {v : Value}
    (h : (binOp .add t (a.eval x) (a.eval y)).run P w = .ok v w') : (execOp a.eval op).run P w = .ok (.value v) w' := by
  unfold execOp
  simp only [ho, Sem.run_bind, eqGuard, Bool.not_false, if_true, h, Result.andThen_ok, Sem.run_pure]

/-- What lies where, in a round of the row's loop. -/
def RefMid (w : World) (o : Own) (E p pg pc : Nat) (rv : Value) (d : DiskM) (ps : List (List UInt8)) (wr : World) (o1 : Own) : Prop :=
  Step (Only E) w o wr o1 ∧ wr.heap[p]? = some (.cells #[.slice (some ⟨pg, 0, none⟩) d.pages.length pc, rv, .int .i64 d.left, .bool d.dead] 51 (0, 0)) ∧
    wr.ownsRow 0 9 1 (.slice (some ⟨pg, 0, none⟩) d.pages.length pc) d.pages.length (strs ps) ∧ wr.ownsRow 0 174 2 rv d.row.length (refCells d.row) ∧
    o1 p = (E, 0) ∧ o1 pg = (E, 1) ∧ (∀ k, rv.ownBlock = some k → o1 k = (E, 2))
section
variable {w wr : World} {o o1 : Own} {E p pg pc : Nat} {rv : Value} {d : DiskM} {ps : List (List UInt8)}
end



end Go.Proofs.YtfgggkheadfiaaaR
/- Contracts of the document's answer of layer 8: number, value. -/
namespace Go.Proofs.YtfgggkheadfiaaaR
open Go Go.RowKit
attribute [local go_sem ↓] Go.wp_at_zero Go.wp_at_succ

section
variable {P : Program} {ops : Array Oper} {Q : Exit → Act → World → Prop} {rest : List Oper} {d : Option Nat} {ty : TypeId} {ps : String} {af : Array _} {a : Act} {w w' : World} {v : Value}
theorem lit_add {x y : Operand} {t u : TypeId} (hr : (binOp .add t (a.eval x) (a.eval y)).run P w = .ok v w') (h : wpList P ops Q rest (a.put d v) w') :
    wpList P ops Q ({ dst := d, op := .binOp .add t x y u, type := ty, pos := ps, after := af, guard := none } :: rest) a w :=
  wpList_run rfl (exec_add t u x y rfl hr) h
end
end Go.Proofs.YtfgggkheadfiaaaR
/- Contracts of the document's answer of layers 2 and 8: a sum, bit by bit. -/
namespace Go.Proofs.YtfgggkheadfiaaaR
open Go Go.RowKit
attribute [local go_sem ↓] Go.wp_at_zero Go.wp_at_succ

/-- 64 bits as cells. -/
def bits64 (f : Nat → Bool) : List Value := (List.range 64).map fun i => .bool (f i)
end Go.Proofs.YtfgggkheadfiaaaR
