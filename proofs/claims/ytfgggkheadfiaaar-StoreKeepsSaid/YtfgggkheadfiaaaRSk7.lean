/- Contracts of the store's copies and records: Clone of lines, Kept.own, Kept.all. -/
import Derived.Test.YtfgggkheadfiaaaRSk6
namespace Go.Proofs.YtfgggkheadfiaaaR
open Go Go.RowKit
attribute [local go_sem ↓] Go.wp_at_zero Go.wp_at_succ

set_option maxRecDepth 100000 in
set_option maxHeartbeats 1600000 in
theorem clonel_any {w : World} {o : Own} {v : Value} {n : Nat} {cs : List Value} (h : Slc w o v n cs) (hcs : cs.length = n * 2) (h1 : ∀ u ∈ cs, u.oneCell' = true) (hn : n ≤ 4000000) :
    Calls Try.prog 133 #[v] w (Ret Nobody w o fun v' w' o' => w'.ownsRow w.heap.size 113 2 v' n cs ∧ o' = ext w o) := by
  have hz : (w.alloc (.cells #[] 113)).ownsRow w.heap.size 113 2 (.slice (some ⟨w.heap.size, 0, none⟩) 0 0) 0 [] := ⟨rfl, .inr ⟨_, 0, #[], rfl, Nat.le_refl _, heap_alloc_new w _, by omega, by simp, rfl, rfl⟩⟩
  have hbz : Below w.heap.size w (w.alloc (.cells #[] 113)) := (Below.refl _ _).alloc (Nat.le_refl _) _
  have fin : ∀ (w' : World) (v' : Value), Below w.heap.size w w' → w'.ownsRow w.heap.size 113 2 v' n cs → Ret Nobody w o (fun v' w' o' => w'.ownsRow w.heap.size 113 2 v' n cs ∧ o' = ext w o) (.returned v') w' := fun w' v' hb ho =>
    ⟨_, ext w o, rfl, ⟨hb.os, hb.tape, hb.output, hb.size, fun k hk => if_pos hk, fun k hk _ => hb.block k hk⟩, ho, rfl⟩
  rcases h with ⟨⟨a, c, rfl⟩, rfl, rfl⟩ | ⟨b, off, cap, rfl, hl, hm, ho, hb, hr⟩
  · cases a with
    | none =>
      have he := run_eqlnil w 93 113 none 0 c Try.underlying93
      go_enter Try.func133, Try.ntmps133
      go_wp2
      go_ret
      exact fin _ _ (Below.refl _ _) (World.ownsRow_nil _ _ _ _)
    | some ad =>
      have he := run_eqlnil w 93 113 (some ad) 0 c Try.underlying93
      have hrun := hidden (run_append_none (P := Try.prog) (w.alloc (.cells #[] 113)) 93 93 113 2 Try.underlying93 (by kernel_rfl) (some ⟨w.heap.size, 0, none⟩) (some ad) 0 0 c (Nat.le_refl _) (by omega))
      go_enter Try.func133, Try.ntmps133
      go_wp2_with ((with_reducible apply lit_append); exact hrun.out; simp only [Act.put, List.setIfInBounds_toArray, List.set_cons_zero, List.set_cons_succ])
      go_ret
      exact fin _ _ hbz hz
  · have he := run_eqlnil w 93 113 (some ⟨b, off, none⟩) n cap Try.underlying93
    by_cases h0 : n = 0
    · subst h0
      have hcs0 := List.eq_nil_of_length_eq_zero (by omega : cs.length = 0)
      subst hcs0
      have hrun := hidden (run_append_none (P := Try.prog) (w.alloc (.cells #[] 113)) 93 93 113 2 Try.underlying93 (by kernel_rfl) (some ⟨w.heap.size, 0, none⟩) (some ⟨b, off, none⟩) 0 0 cap (Nat.le_refl _) (by omega))
      go_enter Try.func133, Try.ntmps133
      go_wp2_with ((with_reducible apply lit_append); exact hrun.out; simp only [Act.put, List.setIfInBounds_toArray, List.set_cons_zero, List.set_cons_succ])
      go_ret
      exact fin _ _ hbz hz
    · have hr1 : (w.alloc (.cells #[] 113)).rangeAt b off cs := World.rangeAt_alloc hr _
      obtain ⟨g, cp, w3, hrun, hown, hgrow, hat, hlt⟩ := run_append_row (P := Try.prog) (w.alloc (.cells #[] 113)) 93 93 113 Try.underlying93 inf113 rfl (by omega) (base := w.heap.size) (by simp) _ 0 [] hz b off n cap cs hcs hr1 h1 (by omega) (by omega) (by omega)
      have hb3 := hbz.grown hgrow (by simp) (fun k hk => by simp only [Value.ownBlock, Option.some.injEq] at hk; omega)
      rw [Nat.zero_add, List.nil_append] at hown
      rw [Nat.zero_add] at hrun
      have hrunH := hidden hrun
      clear hrun hr1 hr
      go_enter Try.func133, Try.ntmps133
      go_wp2_with ((with_reducible apply lit_append); exact hrunH.out; simp only [Act.put, List.setIfInBounds_toArray, List.set_cons_zero, List.set_cons_succ])
      go_ret
      exact fin _ _ hb3 hown

theorem Bytes.retag {w : World} {o o' : Own} {base : Nat} {v : Value} {l : List UInt8} (h : Bytes w o v l) (hf : Fresh base v) (ho : ∀ k, base ≤ k → (o' k).1 = 0) : Bytes w o' v l := by
  rcases h with h | ⟨b, off, cap, rfl, h1, h2, h3, h4, h5⟩
  · exact .inl h
  · exact .inr ⟨b, off, cap, rfl, h1, h2, ho b (hf b rfl), h4, h5⟩
/-- The value's block may be written. -/
def Loose (w : World) (v : Value) : Prop := ∀ b off n c, v = .slice (some ⟨b, off, none⟩) n c → 0 < n → ∃ cs, w.heap[b]? = some (.cells cs 5 (0, 0))
theorem Loose.step {T : Nat → Prop} {w w' : World} {o o' : Own} {v : Value} {l : List UInt8} (h : Loose w v) (hb : Bytes w o v l) (s : Step T w o w' o') (hT : ¬ T 0) : Loose w' v := by
  intro b off n c hv hn
  obtain ⟨cs, hh⟩ := h b off n c hv hn
  rcases hb with ⟨⟨a, c', e⟩, -, -⟩ | ⟨b', off', cap, e, -, -, h0, hlt, -⟩
  · rw [hv] at e; cases e; omega
  · rw [hv] at e; cases e
    exact ⟨cs, by rw [s.block b hlt (by rw [h0]; exact hT)]; exact hh⟩
theorem NewB.loose {w w' : World} {o : Own} {v : Value} {l : List UInt8} (h : NewB w w' o v l) : Loose w' v := by
  intro b off n c hv hn
  rcases h.1.2 with ⟨h1, h0⟩ | ⟨g, cap, cur, h1, q1, q2, -⟩
  · rw [hv] at h1; cases h1
  · rw [hv] at h1; cases h1
    exact ⟨cur, q2⟩
/-- A row of lines of its own, that may be written, with its lines' bytes. -/
def LooseL (w : World) (base : Nat) (v : Value) (ls : List LineM) : Prop := 0 < ls.length → ∃ g c, ∃ cs : List Value, v = .slice (some ⟨g, 0, none⟩) ls.length c ∧ base ≤ g ∧ w.heap[g]? = some (.cells cs.toArray 113 (0, 0)) ∧ ∀ i x, ls[i]? = some x → ∃ bv, cs[2 * i + 1]? = some bv ∧ Loose w bv ∧ Fresh base bv
theorem LooseL.setCells {w : World} {base B off : Nat} {v : Value} {ls : List LineM} {vs : List Value} (h : LooseL w base v ls) (hB : B < base) : LooseL (w.setCells B off vs) base v ls := by
  intro h0
  obtain ⟨g, c, cs, rfl, h1, h2, h3⟩ := h h0
  refine ⟨g, c, cs, rfl, h1, by rw [heap_setCells_other _ _ _ _ _ (by omega)]; exact h2, fun i x hx => ?_⟩
  obtain ⟨bv, q1, q2, q3⟩ := h3 i x hx
  refine ⟨bv, q1, fun b off' n c' hv hn => ?_, q3⟩
  obtain ⟨cs', hh⟩ := q2 b off' n c' hv hn
  have hb := q3 b (by rw [hv]; rfl)
  exact ⟨cs', by rw [heap_setCells_other _ _ _ _ _ (by omega)]; exact hh⟩
theorem LooseL.low {w : World} {base b : Nat} {v : Value} {ls : List LineM} (h : LooseL w base v ls) (hb : b ≤ base) : LooseL w b v ls := by
  intro h0
  obtain ⟨g, c, cs, rfl, h1, h2, h3⟩ := h h0
  refine ⟨g, c, cs, rfl, by omega, h2, fun i x hx => ?_⟩
  obtain ⟨bv, q1, q2, q3⟩ := h3 i x hx
  exact ⟨bv, q1, q2, q3.low hb⟩
/-- The rows of a copy under way: the first k lines' bytes are new. -/
def Half (w : World) (o : Own) (base k : Nat) (cur : List Value) (ls : List LineM) : Prop :=
  2 * ls.length ≤ cur.length ∧ ∀ i x, ls[i]? = some x → cur[2 * i]? = some (.int .u64 (x.e.toNat : Int)) ∧ ∃ bv, cur[2 * i + 1]? = some bv ∧ Bytes w o bv x.b ∧ (i < k → Fresh base bv ∧ Loose w bv)
theorem Half.step {T : Nat → Prop} {w w' : World} {o o' : Own} {base k : Nat} {cur : List Value} {ls : List LineM} (h : Half w o base k cur ls) (s : Step T w o w' o') (hT : ¬ T 0) : Half w' o' base k cur ls :=
  ⟨h.1, fun i x hx => by
    obtain ⟨a, bv, b, c, d⟩ := h.2 i x hx
    exact ⟨a, bv, b, c.step s hT, fun hi => ⟨(d hi).1, (d hi).2.step c s hT⟩⟩⟩
theorem Half.set {w : World} {o : Own} {base k : Nat} {cur : List Value} {ls : List LineM} {x : LineM} {bv : Value} (h : Half w o base k cur ls) (hx : ls[k]? = some x) (hb : Bytes w o bv x.b) (hf : Fresh base bv) (hz : Loose w bv) : Half w o base (k + 1) (cur.set (2 * k + 1) bv) ls := by
  have hk := (List.getElem?_eq_some_iff.1 hx).1
  have hl := h.1
  refine ⟨by rw [List.length_set]; exact h.1, fun i y hy => ?_⟩
  obtain ⟨a, cv, b, c, d⟩ := h.2 i y hy
  rw [List.getElem?_set, if_neg (by omega), List.getElem?_set]
  refine ⟨a, ?_⟩
  by_cases hik : i = k
  · subst hik
    rw [hx] at hy; cases hy
    exact ⟨bv, by rw [if_pos rfl, if_pos (by omega)], hb, fun _ => ⟨hf, hz⟩⟩
  · exact ⟨cv, by rw [if_neg (by omega)]; exact b, c, fun hh => d (by omega)⟩
/-- A copy that is done. -/
theorem Half.lines {w : World} {o o' : Own} {base g cap : Nat} {cur : List Value} {ls : List LineM} (h : Half w o base ls.length cur ls) (hg : w.heap[g]? = some (.cells cur.toArray 113 (0, 0))) (hgb : base ≤ g) (hc : ls.length ≤ cap) (hm : cap ≤ maxLen) (ho : ∀ k, base ≤ k → (o' k).1 = 0) :
    Lines w o' base (.slice (some ⟨g, 0, none⟩) ls.length cap) ls := by
  have hl := h.1
  refine ⟨cur.take (2 * ls.length), .inr ⟨g, 0, cap, rfl, hc, hm, ho g hgb, lt_of_block hg, ?_⟩, ⟨by rw [List.length_take]; omega, fun i x hx => ?_⟩, fun k hk => by simp [Value.ownBlock] at hk; omega, fun u hu => ?_⟩
  · have := range_of_block hg 0 (2 * ls.length)
    rw [List.drop_zero] at this; exact this
  · have hi := (List.getElem?_eq_some_iff.1 hx).1
    obtain ⟨a, bv, b, c, d⟩ := h.2 i x hx
    exact ⟨by rw [List.getElem?_take, if_pos (by omega)]; exact a, bv, by rw [List.getElem?_take, if_pos (by omega)]; exact b, c.retag (d hi).1 ho⟩
  · obtain ⟨j, hj⟩ := List.mem_iff_getElem?.1 hu
    rw [List.getElem?_take] at hj
    split at hj
    · rename_i hlt
      have hi : j / 2 < ls.length := by omega
      obtain ⟨a, bv, b, c, d⟩ := h.2 (j / 2) _ (List.getElem?_eq_getElem hi)
      by_cases hp : 2 * (j / 2) = j
      · rw [hp, hj] at a; cases a; exact Fresh.int _ _ _
      · have hq : 2 * (j / 2) + 1 = j := by omega
        rw [hq, hj] at b; cases b; exact (d hi).1
    · cases hj
theorem Step.reown {T : Nat → Prop} {w w' : World} {o o' : Own} (h : Step T w o w' o') (o2 : Own) (h2 : ∀ k, k < w.heap.size → o2 k = o k) : Step T w o w' o2 := ⟨h.os, h.tape, h.output, h.size, h2, h.block⟩
theorem LnC.half {w : World} {o : Own} {cs cur : List Value} {ls : List LineM} {base n : Nat} (h : LnC w o cs ls) (hn : ls.length = n) (hc : cur.take (n * 2) = cs) : Half w o base 0 cur ls := by
  subst hn
  have hl := h.1
  have hlc := congrArg List.length hc
  rw [List.length_take, hl] at hlc
  refine ⟨by omega, fun i x hx => ?_⟩
  have hi := (List.getElem?_eq_some_iff.1 hx).1
  obtain ⟨a, bv, b, c⟩ := h.2 i x hx
  rw [← hc, List.getElem?_take, if_pos (by omega)] at a b
  exact ⟨a, bv, b, c, fun h => absurd h (by omega)⟩
theorem Lines.zero {w : World} {o : Own} {base : Nat} {v : Value} {ls : List LineM} (hl : ls.length = 0) (a : Option Addr) (c : Nat) (hv : v = .slice a 0 c) (hf : Fresh base v) : Lines w o base v ls :=
  ⟨[], .inl ⟨⟨a, c, hv⟩, hl, rfl⟩, by rw [List.eq_nil_of_length_eq_zero hl]; exact LnC.nil w o, hf, by simp⟩
theorem load108 {w : World} {b off : Nat} {p c : Int} {lv : Value} (hr : w.rangeAt b off [.int .u64 p, .int .u64 c, lv]) : (Instr.loadAt 108 (.pointer (some ⟨b, off, none⟩))).run Try.prog w = .ok (.agg #[.int .u64 p, .int .u64 c, lv]) w := by
  simp only [Instr.loadAt, Instr.sureAddr, Sem.run_bind, Sem.run_pure, Result.andThen_ok]
  exact run_loadVar_mid w b off 108 [.int .u64 p, .int .u64 c, lv] _ hr Try.underlying108 rfl (by kernel_rfl)
theorem zc108 : ((Try.prog.info? 108).bind (·.zero)).map (·.cells) = some #[.int .u64 0, .int .u64 0, .slice none 0 0] := by kernel_rfl
theorem size108 : (Try.prog.info? 108).map (·.size) = some 3 := by kernel_rfl
/-- What is kept, as a value. -/
def keptV (p c : BitVec 64) (lv : Value) : Value := .agg #[.int .u64 (p.toNat : Int), .int .u64 (c.toNat : Int), lv]
set_option maxRecDepth 100000 in
set_option maxHeartbeats 3200000 in
theorem own_any2 {w : World} {o : Own} {base : Nat} {p c : BitVec 64} {lv : Value} {ls : List LineM} (h : Lines w o base lv ls) (hn : ls.length ≤ 100000) (hbl : ∀ x ∈ ls, x.b.length ≤ 4000000) :
    Calls Try.prog 102 #[keptV p c lv] w (Ret Nobody w o fun v w' o' => ∃ lv', v = keptV p c lv' ∧ Lines w' o' w.heap.size lv' ls ∧ o' = ext w o ∧ LooseL w' w.heap.size lv' ls) := by
  obtain ⟨pI, hpI⟩ : ∃ pI : Int, (p.toNat : Int) = pI := ⟨_, rfl⟩
  obtain ⟨cI, hcI⟩ : ∃ cI : Int, (c.toNat : Int) = cI := ⟨_, rfl⟩
  unfold keptV
  rw [hpI, hcI]
  clear hpI hcI p c
  obtain ⟨la, lc, rfl⟩ := h.form
  obtain ⟨cs, hsl, hln, -, -⟩ := h
  have hone := hln.one
  have s1 := (Step.refl Nobody w o).alloc (.cells #[.int .u64 pI, .int .u64 cI, .slice la ls.length lc] 108) (1, 1)
  have s2 := s1.alloc (.cells #[.int .u64 0, .int .u64 0, .slice none 0 0] 108) (1, 2)
  have b1 : (w.alloc (.cells #[.int .u64 pI, .int .u64 cI, .slice la ls.length lc] 108)).heap[w.heap.size]? = some (.cells [.int .u64 pI, .int .u64 cI, .slice la ls.length lc].toArray 108 (0, 0)) := heap_alloc_new w _
  have z1 : (w.alloc (.cells #[.int .u64 pI, .int .u64 cI, .slice la ls.length lc] 108)).heap.size = w.heap.size + 1 := by simp
  have t1 : tagAt o w.heap.size (1, 1) w.heap.size = (1, 1) := tagAt_same _ _ _
  obtain ⟨W1, hW1⟩ : ∃ W1, w.alloc (.cells #[.int .u64 pI, .int .u64 cI, .slice la ls.length lc] 108) = W1 := ⟨_, rfl⟩
  rw [hW1] at s2 b1 z1
  generalize tagAt o w.heap.size (1, 1) = o1 at *
  have b2 : (W1.alloc (.cells #[.int .u64 0, .int .u64 0, .slice none 0 0] 108)).heap[W1.heap.size]? = some (.cells [.int .u64 0, .int .u64 0, .slice none 0 0].toArray 108 (0, 0)) := heap_alloc_new W1 _
  have b12 : (W1.alloc (.cells #[.int .u64 0, .int .u64 0, .slice none 0 0] 108)).heap[w.heap.size]? = _ := (Below.heap_alloc _ _ _ (by omega)).trans b1
  have t2 : tagAt o1 W1.heap.size (1, 2) W1.heap.size = (1, 2) := tagAt_same _ _ _
  have t12 : tagAt o1 W1.heap.size (1, 2) w.heap.size = (1, 1) := by rw [tagAt_other _ _ (by omega)]; exact t1
  have z2 : (W1.alloc (.cells #[.int .u64 0, .int .u64 0, .slice none 0 0] 108)).heap.size = w.heap.size + 2 := by simp [z1]
  have hal := hidden (run_alloc_zero (P := Try.prog) W1 108 _ zc108)
  obtain ⟨W2, hW2⟩ : ∃ W2, W1.alloc (.cells #[.int .u64 0, .int .u64 0, .slice none 0 0] 108) = W2 := ⟨_, rfl⟩
  rw [hW2] at hal s2 b2 b12 z2
  rw [z1] at b2 t2 t12 s2 hal
  generalize tagAt o1 (w.heap.size + 1) (1, 2) = o2 at *
  have hsl2 := hsl.step s2 (fun h => h)
  have hln2 := hln.step s2 (fun h => h)
  have hcl := clonel_any hsl2 (by rw [hln.1]; omega) hone (by omega)
  have hclH := hidden hcl
  have hln2H := hidden hln2
  have hblH := hidden hbl
  rw [← hW1] at hal
  obtain ⟨n, hn0⟩ : ∃ n, ls.length = n := ⟨_, rfl⟩
  have hn0H := hidden hn0
  rw [hn0] at hclH hn hal b12 ⊢
  have hni : (0 : Int) ≤ (n : Int) ∧ (n : Int) ≤ 100000 := by omega
  have c2 : W2.cell? ⟨w.heap.size, 2, none⟩ = some (.slice la n lc) := cell_of_block b12 2
  clear hcl hln2 hbl hW1 hW2 b1 z1 t1 s1 hsl hln hsl2 hone hn0
  go_enter Try.func102, Try.ntmps102
  go_wp2_with ((with_reducible apply lit_alloc); exact hal.out; simp only [Act.put, List.setIfInBounds_toArray, List.set_cons_zero, List.set_cons_succ])
  refine hclH.out.mono ?_; rintro e W3 ⟨v3, o3, rfl, s3, hown, rfl⟩
  obtain ⟨kb, hkb⟩ : ∃ kb, w.heap.size = kb := ⟨_, rfl⟩
  rw [hkb] at b12 b2 z2 t12 t2 ⊢
  have s3 := s3.retag (1, 0)
  have l12 := lt_of_block b12
  have l2 := lt_of_block b2
  have b3 := (s3.block kb l12 (fun h => h)).trans b12
  have r3 := (s3.block (kb + 1) l2 (fun h => h)).trans b2
  have vo3 : (extT W2 o2 (1, 0) (kb + 1)).1 = 1 := by rw [s3.own (kb + 1) l2, t2]
  have uo3 : (extT W2 o2 (1, 0) kb).1 = 1 := by rw [s3.own kb l12, t12]
  have hkbw : w.heap.size ≤ kb := by omega
  obtain ⟨va, vc, rfl⟩ := own_form hown
  have hst := s2.trans s3
  have b4 := heap_setCell_at (i := 2) (.slice va n vc) b3
  simp only [List.set_cons_zero, List.set_cons_succ] at b4
  have r4 : (W3.setCell ⟨kb, 2, none⟩ (.slice va n vc)).heap[kb + 1]? = _ := (Below.heap_setCell _ _ _ _ (by show kb + 1 ≠ kb; omega)).trans r3
  have hset := (Step.refl (Only 1) W3 (extT W2 o2 (1, 0))).setCell (a := ⟨kb, 2, none⟩) (.slice va n vc) (.inl uo3)
  have hst4 := hst.setCell (a := ⟨kb, 2, none⟩) (.slice va n vc) (.inr hkbw)
  have hfz := free_of_block b3 2
  have hln4 := (hln2H.out.step s3 (fun h => h)).step hset (fun h => by change 0 = 1 at h; omega)
  have hsz4 : kb + 2 ≤ W2.heap.size := by omega
  have hext : ∀ k, W2.heap.size ≤ k → extT W2 o2 (1, 0) k = (1, 0) := fun k hk => extT_new hk
  clear s2 s3 hclH hal c2 r3 hset hln2H b12 b2 t12 t2 hst
  obtain ⟨oc, hoc⟩ : ∃ oc, extT W2 o2 (1, 0) = oc := ⟨_, rfl⟩
  rw [hoc] at hst4 hln4 uo3 vo3 hext
  clear hoc
  have c3o : W3.cell? ⟨kb, 2, none⟩ = some (.slice la n lc) := cell_of_block b3 2
  have c3 : (W3.setCell ⟨kb, 2, none⟩ (.slice va n vc)).cell? ⟨kb, 2, none⟩ = some (.slice va n vc) := cell_of_block b4 2
  clear b3
  by_cases hn1 : n = 0
  · subst hn1
    have hfr : Fresh w.heap.size (.slice va 0 vc) := Fresh.own hown (by omega)
    go_wp2_with fail
    go_loopw [11] (fun i wr => i = .int .i64 0 ∧ wr = W3.setCell ⟨kb, 2, none⟩ (.slice va 0 vc)) (fun _ _ => 0)
    case atStart => exact ⟨rfl, rfl⟩
    case round =>
      obtain ⟨rfl, rfl⟩ := hrel
      have hkc := b4
      have hrc := r4
      have hst := hst4
      generalize W3.setCell ⟨kb, 2, none⟩ (.slice va 0 vc) = wr at *
      have hld := hidden (load108 (range_whole hkc))
      obtain ⟨hso, hsb⟩ := run_store_agg (P := Try.prog) (ty := 108) (vs := [.int .u64 pI, .int .u64 cI, .slice va 0 vc]) hrc rfl (by kernel_rfl) rfl
      have hsoH := hidden hso
      have hstF := hst.setCells (kb + 1) 0 [.int .u64 pI, .int .u64 cI, .slice va 0 vc] (.inr (by omega))
      have hLF := hidden (show Lines (wr.setCells (kb + 1) 0 [.int .u64 pI, .int .u64 cI, .slice va 0 vc]) (ext w o) w.heap.size (.slice va 0 vc) ls from Lines.zero hn0H.out va vc rfl hfr)
      clear hso hkc hrc b4 r4 c3 c3o hfz hst hst4 hln4 hown
      go_wp2_with (first
        | ((with_reducible apply lit_load); exact hld.out; simp only [Act.put, List.setIfInBounds_toArray, List.set_cons_zero, List.set_cons_succ])
        | ((with_reducible apply lit_store); exact hsoH.out; simp only [Act.put]))
      refine bodyPost_ret (results_cell_row rfl _ _ (kb + 1) 108 _ (0, 0) _ rfl hsb Try.underlying108 rfl size108) rfl ?_
      exact ⟨_, ext w o, rfl, hstF.reown _ (fun k hk => if_pos hk), _, rfl, hLF.out, rfl, fun h0 => by rw [hn0H.out] at h0; omega⟩
  · obtain ⟨g, cap, cur, hv, hgb, hg, hnc, hcm, htk⟩ : ∃ g cap cur, Value.slice va n vc = .slice (some ⟨g, 0, none⟩) n cap ∧ W2.heap.size ≤ g ∧ W3.heap[g]? = some (.cells (cur : List Value).toArray 113 (0, 0)) ∧ n ≤ cap ∧ cap ≤ maxLen ∧ cur.take (n * 2) = cs := by
      rcases hown.2 with ⟨_, h0⟩ | ⟨g, cap, cur, h1, q1, q2, q3, q4, q5, q6⟩
      · exact absurd h0 hn1
      · exact ⟨g, cap, cur.toList, h1, q1, by simpa using q2, q3, q4, q6⟩
    simp only [Value.slice.injEq, true_and] at hv
    obtain ⟨rfl, rfl⟩ := hv
    have hg4 : (W3.setCell ⟨kb, 2, none⟩ (.slice (some ⟨g, 0, none⟩) n vc)).heap[g]? = _ := (Below.heap_setCell _ _ _ _ (by show g ≠ kb; omega)).trans hg
    have hgt : (oc g).1 = 1 := by rw [hext g hgb]
    have hhf := hln4.half (base := kb) hn0H.out htk
    have hgk : kb + 2 ≤ g := by omega
    clear hown hln4 htk hg hext hsz4
    go_wp2_with fail
    go_loopw [11] (fun i wr => ∃ (k : Nat) (oj : Own) (cur : List Value), k ≤ n ∧ i = .int .i64 k ∧ wr.heap[kb]? = some (.cells [.int .u64 pI, .int .u64 cI, .slice (some ⟨g, 0, none⟩) n vc].toArray 108 (0, 0)) ∧
        wr.heap[kb + 1]? = some (.cells [.int .u64 0, .int .u64 0, .slice none 0 0].toArray 108 (0, 0)) ∧ wr.heap[g]? = some (.cells cur.toArray 113 (0, 0)) ∧ (oj kb).1 = 1 ∧ (oj (kb + 1)).1 = 1 ∧ (oj g).1 = 1 ∧ Half wr oj kb k cur ls ∧ Step Nobody w o wr oj) (fun i _ => n - (intOf i).toNat)
    case atStart => exact ⟨0, oc, cur, by omega, rfl, b4, r4, hg4, uo3, vo3, hgt, hhf, hst4⟩
    case round =>
      clear b4 r4 hg4 uo3 vo3 hgt hhf hst4 c3 c3o hfz
      obtain ⟨k, oj, cur, hk, rfl, hkc, hrc, hgc, u1, u4, u2, hhf, hst⟩ := hrel
      by_cases hlt : k < n
      · obtain ⟨x, hx⟩ : ∃ x, ls[k]? = some x := ⟨_, List.getElem?_eq_getElem (by rw [hn0H.out]; exact hlt)⟩
        obtain ⟨-, bv, hbv, hby, -⟩ := hhf.2 k x hx
        have c2 : wr.cell? ⟨kb, 2, none⟩ = some (.slice (some ⟨g, 0, none⟩) n vc) := cell_of_block hkc 2
        have cg : wr.cell? ⟨g, k * 2 + 1, none⟩ = some bv := by rw [cell_of_block hgc, Nat.mul_comm]; exact hbv
        have hS := And.intro c2 cg
        have hcl := hidden (fun (W : World) (O : Own) (hb : Bytes W O bv x.b) => clone_any hb (hblH.out x (List.mem_of_getElem? hx)))
        have hxH := hidden hx
        obtain ⟨ba, bc, rfl⟩ := slc_form hby
        clear hx hbv
        go_wp2_with fail
        refine wp_region_need (fun w' => w'.cell? ⟨kb, 2, none⟩ = some (.slice (some ⟨g, 0, none⟩) n vc) ∧ w'.cell? ⟨g, k * 2 + 1, none⟩ = some (.slice ba x.b.length bc)) (fun i => decide (i < 12)) (by kernel_rfl) hS (fun hHeld => ?_)
        refine wpAnyN_tk (i := 0) (v := ?_) rfl (by kernel_rfl) (fun _ _ _ h => h) (Or.inl ⟨by rfl, ?_⟩) (by assumption) ?_
        rotate_left
        · intro w hSw; ((try dsimp only at hSw); go_simp; (try with_reducible rfl))
        simp only [Act.put, List.setIfInBounds_toArray, List.set_cons_zero, List.set_cons_succ]
        refine wpAnyN_tk (i := 1) (v := ?_) rfl (by kernel_rfl) (fun _ _ _ h => h) (Or.inl ⟨by rfl, ?_⟩) (by assumption) ?_
        rotate_left
        · intro w hSw; ((try dsimp only at hSw); go_simp; (try with_reducible rfl))
        simp only [Act.put, List.setIfInBounds_toArray, List.set_cons_zero, List.set_cons_succ]
        refine wpAnyN_tk (i := 2) (v := ?_) rfl (by kernel_rfl) (fun _ _ _ h => h) (Or.inl ⟨by rfl, ?_⟩) (by assumption) ?_
        rotate_left
        · intro w hSw; ((try dsimp only at hSw); go_simp; (try with_reducible rfl))
        simp only [Act.put, List.setIfInBounds_toArray, List.set_cons_zero, List.set_cons_succ]
        refine wpAnyN_tk (i := 3) (v := ?_) rfl (by kernel_rfl) (fun _ _ _ h => h) (Or.inl ⟨by rfl, ?_⟩) (by assumption) ?_
        rotate_left
        · intro w hSw; ((try dsimp only at hSw); go_simp; (try with_reducible rfl))
        simp only [Act.put, List.setIfInBounds_toArray, List.set_cons_zero, List.set_cons_succ]
        refine wpAnyN_tk (i := 4) (v := ?_) rfl (by kernel_rfl) (fun _ _ _ h => h) (Or.inl ⟨by rfl, ?_⟩) (by assumption) ?_
        rotate_left
        · intro w hSw; ((try dsimp only at hSw); go_simp; (try with_reducible rfl))
        simp only [Act.put, List.setIfInBounds_toArray, List.set_cons_zero, List.set_cons_succ]
        refine wpAnyN_tk (i := 5) (v := ?_) rfl (by kernel_rfl) (fun _ _ _ h => h) (Or.inl ⟨by rfl, ?_⟩) (by assumption) ?_
        rotate_left
        · intro w hSw; ((try dsimp only at hSw); go_simp; (try with_reducible rfl))
        simp only [Act.put, List.setIfInBounds_toArray, List.set_cons_zero, List.set_cons_succ]
        refine wpAnyN_tk (i := 6) (v := ?_) rfl (by kernel_rfl) (fun _ _ _ h => h) (Or.inl ⟨by rfl, ?_⟩) (by assumption) ?_
        rotate_left
        · intro w hSw; ((try dsimp only at hSw); go_simp; (try with_reducible rfl))
        simp only [Act.put, List.setIfInBounds_toArray, List.set_cons_zero, List.set_cons_succ]
        refine wpAnyN_tk (i := 7) (v := ?_) rfl (by kernel_rfl) (fun _ _ _ h => h) (Or.inl ⟨by rfl, ?_⟩) (by assumption) ?_
        rotate_left
        · intro w hSw; ((try dsimp only at hSw); go_simp; (try with_reducible rfl))
        simp only [Act.put, List.setIfInBounds_toArray, List.set_cons_zero, List.set_cons_succ]
        refine wpAnyN_tk (i := 8) (v := ?_) rfl (by kernel_rfl) (fun _ _ _ h => h) (Or.inl ⟨by rfl, ?_⟩) (by assumption) ?_
        rotate_left
        · intro w hSw; ((try dsimp only at hSw); go_simp; (try with_reducible rfl))
        simp only [Act.put, List.setIfInBounds_toArray, List.set_cons_zero, List.set_cons_succ]
        refine wpAnyN_one (i := 9) rfl (by kernel_rfl) ?_
        go_wp2_with fail
        have hdr := (Step.refl Nobody wr oj).drew
        refine (hcl.out _ _ (hby.step hdr (fun h => h))).mono ?_; rintro e w5 ⟨v5, o5, rfl, hs5, hnb⟩
        have hs5 := hdr.trans hs5
        have lk := lt_of_block hkc
        have lr := lt_of_block hrc
        have lg := lt_of_block hgc
        have hkc5 := (hs5.block kb lk (fun h => h)).trans hkc
        have hrc5 := (hs5.block (kb + 1) lr (fun h => h)).trans hrc
        have hgc5 := (hs5.block g lg (fun h => h)).trans hgc
        have u15 : (o5 kb).1 = 1 := by rw [hs5.own kb lk]; exact u1
        have u45 : (o5 (kb + 1)).1 = 1 := by rw [hs5.own (kb + 1) lr]; exact u4
        have u25 : (o5 g).1 = 1 := by rw [hs5.own g lg]; exact u2
        have hS5 := And.intro (cell_of_block (i := 2) hkc5) (show w5.cell? ⟨g, k * 2 + 1, none⟩ = some (.slice ba x.b.length bc) by rw [World.cell?_of_block (w := wr) (a := ⟨g, k * 2 + 1, none⟩) (hs5.block g lg (fun h => h))]; exact cg)
        have hfz := free_of_block hgc5 (k * 2 + 1)
        have cg5 := hS5.2
        have hset := (Step.refl (Only 1) w5 o5).setCell (a := ⟨g, k * 2 + 1, none⟩) v5 (.inl u25)
        have h01 : ¬ Only 1 0 := fun h => by change 0 = 1 at h; omega
        have hh6 := ((hhf.step hs5 (fun h => h)).step hset h01).set hxH.out (hnb.bytes.step hset h01) (hnb.fresh.low (show kb ≤ wr.heap.size by omega)) (hnb.loose.step hnb.bytes hset h01)
        have hg6 := heap_setCell_at (i := 2 * k + 1) v5 hgc5
        have hk6 : (w5.setCell ⟨g, 2 * k + 1, none⟩ v5).heap[kb]? = _ := (Below.heap_setCell _ _ _ _ (by show kb ≠ g; omega)).trans hkc5
        have hr6 : (w5.setCell ⟨g, 2 * k + 1, none⟩ v5).heap[kb + 1]? = _ := (Below.heap_setCell _ _ _ _ (by show kb + 1 ≠ g; omega)).trans hrc5
        have hst6 := (hst.trans hs5).setCell (a := ⟨g, k * 2 + 1, none⟩) v5 (.inr (by show w.heap.size ≤ g; omega))
        rw [Nat.mul_comm 2 k] at hg6 hk6 hr6 hh6
        have hF := hidden (And.intro hk6 (And.intro hr6 (And.intro hg6 (And.intro hh6 hst6))))
        obtain ⟨na, nc, rfl⟩ := slc_form hnb.bytes
        clear hset hh6 hg6 hk6 hr6 hst6 hnb hdr hs5 hkc5 hrc5 hgc5 hby hcl hHeld
        go_wp2_with fail
        refine ⟨fun _ => hS5, ?_⟩
        refine wpAnyN_one (i := 10) rfl (by kernel_rfl) ?_
        go_wp2_with fail
        refine ⟨fun _ => hS5, ?_⟩
        refine wpAnyN_tk (i := 11) (v := ?_) rfl (by kernel_rfl) (fun _ _ _ h => h) (Or.inl ⟨by rfl, ?_⟩) (by assumption) ?_
        rotate_left
        · intro w hSw; ((try dsimp only at hSw); go_simp; (try with_reducible rfl))
        simp only [Act.put, List.setIfInBounds_toArray, List.set_cons_zero, List.set_cons_succ]
        refine wpAnyN_one (i := 12) rfl (by kernel_rfl) ?_
        go_wp2_with fail
        refine ⟨fun h => by simp at h, ?_⟩
        refine wpAnyN_done (by kernel_rfl) ?_ _
        clear hS5 hS c2 cg cg5 hfz
        go_wp2_with fail
        go_roundw
        case rel => exact ⟨k + 1, o5, _, by omega, by go_num, hF.out.1, hF.out.2.1, hF.out.2.2.1, u15, u45, u25, hF.out.2.2.2.1, hF.out.2.2.2.2⟩
        case measure => simp [intOf]; omega
      · obtain rfl : n = k := by omega
        have hLn := hn0H.out
        have hext0 : ∀ k, kb ≤ k → (ext w o k).1 = 0 := fun k hk => by unfold ext; rw [if_neg (by omega)]
        have hset := (Step.refl (Only 1) wr oj).setCells (kb + 1) 0 [.int .u64 pI, .int .u64 cI, .slice (some ⟨g, 0, none⟩) n vc] (.inl u4)
        have hgF : (wr.setCells (kb + 1) 0 [.int .u64 pI, .int .u64 cI, .slice (some ⟨g, 0, none⟩) n vc]).heap[g]? = _ := (heap_setCells_other (kb + 1) _ 0 wr g (by omega)).trans hgc
        have hhF := hhf.step hset (fun h => by change 0 = 1 at h; omega)
        have hld := hidden (load108 (range_whole hkc))
        obtain ⟨hso, hsb⟩ := run_store_agg (P := Try.prog) (ty := 108) (vs := [.int .u64 pI, .int .u64 cI, .slice (some ⟨g, 0, none⟩) n vc]) hrc rfl (by kernel_rfl) rfl
        have hsoH := hidden hso
        have hZF := hidden (show LooseL (wr.setCells (kb + 1) 0 [.int .u64 pI, .int .u64 cI, .slice (some ⟨g, 0, none⟩) n vc]) w.heap.size (.slice (some ⟨g, 0, none⟩) n vc) ls from fun _ => ⟨g, vc, cur, by rw [hLn], by omega, hgF, fun i x hx => by
          obtain ⟨_, bv, q1, _, q2⟩ := hhF.2 i x hx
          have hi := (List.getElem?_eq_some_iff.1 hx).1
          have q3 := q2 (by omega)
          exact ⟨bv, q1, q3.2, q3.1.low (by omega)⟩⟩)
        have hstF := hst.setCells (kb + 1) 0 [.int .u64 pI, .int .u64 cI, .slice (some ⟨g, 0, none⟩) n vc] (.inr (by omega))
        have hLF := hidden (show Lines (wr.setCells (kb + 1) 0 [.int .u64 pI, .int .u64 cI, .slice (some ⟨g, 0, none⟩) n vc]) (ext w o) w.heap.size (.slice (some ⟨g, 0, none⟩) n vc) ls from by
          rw [hkb]
          have hq := (show Half _ oj kb ls.length cur ls from by rw [hLn]; exact hhF).lines hgF (by omega) (by omega) hcm hext0
          rw [hLn] at hq
          exact hq)
        clear hso hkc hrc hst hgc hhf hset hgF hhF
        go_wp2_with (first
          | ((with_reducible apply lit_load); exact hld.out; simp only [Act.put, List.setIfInBounds_toArray, List.set_cons_zero, List.set_cons_succ])
          | ((with_reducible apply lit_store); exact hsoH.out; simp only [Act.put]))
        refine bodyPost_ret (results_cell_row rfl _ _ (kb + 1) 108 _ (0, 0) _ rfl hsb Try.underlying108 rfl size108) rfl ?_
        exact ⟨_, ext w o, rfl, hstF.reown _ (fun k hk => if_pos hk), _, rfl, hLF.out, rfl, hZF.out⟩
theorem own_any {w : World} {o : Own} {base : Nat} {p c : BitVec 64} {lv : Value} {ls : List LineM} (h : Lines w o base lv ls) (hn : ls.length ≤ 100000) (hbl : ∀ x ∈ ls, x.b.length ≤ 4000000) :
    Calls Try.prog 102 #[keptV p c lv] w (Ret Nobody w o fun v w' o' => ∃ lv', v = keptV p c lv' ∧ Lines w' o' w.heap.size lv' ls ∧ o' = ext w o) := by
  refine (own_any2 h hn hbl).mono ?_
  rintro e w' ⟨v, o', rfl, hs, lv', h1, h2, h3, -⟩
  exact ⟨v, o', rfl, hs, lv', h1, h2, h3⟩
end Go.Proofs.YtfgggkheadfiaaaR
/- Contracts: Kept.all; ContainsFunc over lines; store.good. -/
namespace Go.Proofs.YtfgggkheadfiaaaR
open Go Go.RowKit
attribute [local go_sem ↓] Go.wp_at_zero Go.wp_at_succ

def allE (age p c : BitVec 64) (ls : List LineM) : List UInt8 := 1 :: (be 8 age ++ (be 8 p ++ (be 8 c ++ encL ls)))
set_option maxRecDepth 100000 in
set_option maxHeartbeats 3200000 in
theorem all_any {w : World} {o : Own} {base : Nat} {p c : BitVec 64} {lv : Value} {ls : List LineM} (h : Lines w o base lv ls) (hn : ls.length ≤ 100000) (hbl : (encs ls).length ≤ 1300000) (age : BitVec 64) :
    Calls Try.prog 134 #[keptV p c lv, .int .u64 (age.toNat : Int)] w (Ret Nobody w o fun v w' o' => NewB w w' o' v (allE age p c ls)) := by
  unfold keptV
  have s1 := (Step.refl Nobody w o).alloc (.cells #[.int .u64 (p.toNat : Int), .int .u64 (c.toNat : Int), lv] 108) (0, 0)
  have b1 : (w.alloc (.cells #[.int .u64 (p.toNat : Int), .int .u64 (c.toNat : Int), lv] 108)).heap[w.heap.size]? = some (.cells [.int .u64 (p.toNat : Int), .int .u64 (c.toNat : Int), lv].toArray 108 (0, 0)) := heap_alloc_new w _
  have hl1 := h.step s1 (fun h => h)
  obtain ⟨la, lc, rfl⟩ := h.form
  obtain ⟨W1, hW1⟩ : ∃ W1, w.alloc (.cells #[.int .u64 (p.toNat : Int), .int .u64 (c.toNat : Int), .slice la ls.length lc] 108) = W1 := ⟨_, rfl⟩
  rw [hW1] at s1 b1 hl1
  generalize tagAt o w.heap.size (0, 0) = o1 at *
  have c0 := cell_of_block b1 0
  have c1 := cell_of_block b1 1
  have c2 := cell_of_block b1 2
  simp only [List.getElem?_cons_zero, List.getElem?_cons_succ] at c0 c1 c2
  have hW1H := hidden hW1
  have hlH := hidden hl1
  have hbH := hidden b1
  have hnH := hidden (And.intro hn hbl)
  have hst := s1
  clear hW1 h hl1 b1 hn hbl s1
  have hst0 := hidden hst
  go_enter Try.func134, Try.ntmps134
  go_wp2_with fail
  rw [hW1H.out]
  refine wp_region_need (fun w' => w'.cell? ⟨w.heap.size, 0, none⟩ = some (.int .u64 (p.toNat : Int)) ∧ w'.cell? ⟨w.heap.size, 1, none⟩ = some (.int .u64 (c.toNat : Int)) ∧ w'.cell? ⟨w.heap.size, 2, none⟩ = some (.slice la ls.length lc)) (fun _ => true) (by kernel_rfl) ⟨c0, c1, c2⟩ (fun hHeld => ?_)
  refine wpAnyN_tk (i := 1) (v := ?_) rfl (by kernel_rfl) (fun _ _ _ h => h) (Or.inl ⟨by rfl, ?_⟩) (by assumption) ?_
  rotate_left
  · intro w hSw; ((try dsimp only at hSw); go_simp; (try with_reducible rfl))
  simp only [Act.put, List.setIfInBounds_toArray, List.set_cons_zero, List.set_cons_succ]
  refine wpAnyN_tk (i := 3) (v := ?_) rfl (by kernel_rfl) (fun _ _ _ h => h) (Or.inl ⟨by rfl, ?_⟩) (by assumption) ?_
  rotate_left
  · intro w hSw; ((try dsimp only at hSw); go_simp; (try with_reducible rfl))
  simp only [Act.put, List.setIfInBounds_toArray, List.set_cons_zero, List.set_cons_succ]
  refine wpAnyN_tk (i := 4) (v := ?_) rfl (by kernel_rfl) (fun _ _ _ h => h) (Or.inl ⟨by rfl, ?_⟩) (by assumption) ?_
  rotate_left
  · intro w hSw; ((try dsimp only at hSw); go_simp; (try with_reducible rfl))
  simp only [Act.put, List.setIfInBounds_toArray, List.set_cons_zero, List.set_cons_succ]
  refine wpAnyN_tk (i := 6) (v := ?_) rfl (by kernel_rfl) (fun _ _ _ h => h) (Or.inl ⟨by rfl, ?_⟩) (by assumption) ?_
  rotate_left
  · intro w hSw; ((try dsimp only at hSw); go_simp; (try with_reducible rfl))
  simp only [Act.put, List.setIfInBounds_toArray, List.set_cons_zero, List.set_cons_succ]
  refine wpAnyN_tk (i := 7) (v := ?_) rfl (by kernel_rfl) (fun _ _ _ h => h) (Or.inl ⟨by rfl, ?_⟩) (by assumption) ?_
  rotate_left
  · intro w hSw; ((try dsimp only at hSw); go_simp; (try with_reducible rfl))
  simp only [Act.put, List.setIfInBounds_toArray, List.set_cons_zero, List.set_cons_succ]
  refine wpAnyN_tk (i := 9) (v := ?_) rfl (by kernel_rfl) (fun _ _ _ h => h) (Or.inl ⟨by rfl, ?_⟩) (by assumption) ?_
  rotate_left
  · intro w hSw; ((try dsimp only at hSw); go_simp; (try with_reducible rfl))
  simp only [Act.put, List.setIfInBounds_toArray, List.set_cons_zero, List.set_cons_succ]
  refine wpAnyN_tk (i := 10) (v := ?_) rfl (by kernel_rfl) (fun _ _ _ h => h) (Or.inl ⟨by rfl, ?_⟩) (by assumption) ?_
  rotate_left
  · intro w hSw; ((try dsimp only at hSw); go_simp; (try with_reducible rfl))
  simp only [Act.put, List.setIfInBounds_toArray, List.set_cons_zero, List.set_cons_succ]
  refine wpAnyN_one (i := 0) rfl (by kernel_rfl) ?_
  go_wp2_with fail
  refine (wbyte_any (Bytes.nil _ o1) (by simp) 1).mono ?_; rintro e wa ⟨va, oa, rfl, hsa, hnba⟩
  have hsa : Step Nobody W1 o1 wa oa := (Step.refl Nobody W1 o1).drew.trans hsa
  have hba := (hsa.block _ (lt_of_block hbH.out) (fun h => h)).trans hbH.out
  have hSa := And.intro (cell_of_block (i := 0) hba) (And.intro (cell_of_block (i := 1) hba) (cell_of_block (i := 2) hba))
  have hst := hst.trans hsa
  go_wp2_with fail
  refine ⟨fun _ => hSa, ?_⟩
  refine wpAnyN_one (i := 2) rfl (by kernel_rfl) ?_
  go_wp2_with fail
  refine (wuint_any hnba.bytes (by simp) age).mono ?_; rintro e wb ⟨vb, ob, rfl, hsb, hnbb⟩
  have hsb : Step Nobody wa oa wb ob := hsb
  have hbb := (hsb.block _ (lt_of_block hba) (fun h => h)).trans hba
  have hSb := And.intro (cell_of_block (i := 0) hbb) (And.intro (cell_of_block (i := 1) hbb) (cell_of_block (i := 2) hbb))
  have hst := hst.trans hsb
  go_wp2_with fail
  refine ⟨fun _ => hSb, ?_⟩
  refine wpAnyN_one (i := 5) rfl (by kernel_rfl) ?_
  go_wp2_with fail
  refine (wuint_any hnbb.bytes (by simp [length_be]) p).mono ?_; rintro e wc ⟨vc, oc, rfl, hsc, hnbc⟩
  have hsc : Step Nobody wb ob wc oc := hsc
  have hbc := (hsc.block _ (lt_of_block hbb) (fun h => h)).trans hbb
  have hSc := And.intro (cell_of_block (i := 0) hbc) (And.intro (cell_of_block (i := 1) hbc) (cell_of_block (i := 2) hbc))
  have hst := hst.trans hsc
  go_wp2_with fail
  refine ⟨fun _ => hSc, ?_⟩
  refine wpAnyN_one (i := 8) rfl (by kernel_rfl) ?_
  go_wp2_with fail
  refine (wuint_any hnbc.bytes (by simp [length_be]) c).mono ?_; rintro e wd ⟨vd, od, rfl, hsd, hnbd⟩
  have hsd : Step Nobody wc oc wd od := hsd
  have hbd := (hsd.block _ (lt_of_block hbc) (fun h => h)).trans hbc
  have hSd := And.intro (cell_of_block (i := 0) hbd) (And.intro (cell_of_block (i := 1) hbd) (cell_of_block (i := 2) hbd))
  have hst := hst.trans hsd
  go_wp2_with fail
  refine ⟨fun _ => hSd, ?_⟩
  refine wpAnyN_one (i := 11) rfl (by kernel_rfl) ?_
  go_wp2_with fail
  refine (slines_any hnbd.bytes (((((hlH.out.step hsa (fun h => h)).step hsb (fun h => h)).step hsc (fun h => h))).step hsd (fun h => h)) (by simp [length_be]; have := hnH.out; omega) hnH.out.1).mono ?_; rintro e wf ⟨vf, of, rfl, hsf, hnbf⟩
  have hsf : Step Nobody wd od wf of := hsf
  have hbf := (hsf.block _ (lt_of_block hbd) (fun h => h)).trans hbd
  have hSf := And.intro (cell_of_block (i := 0) hbf) (And.intro (cell_of_block (i := 1) hbf) (cell_of_block (i := 2) hbf))
  have hst := hst.trans hsf
  go_wp2_with fail
  refine ⟨fun _ => hSf, ?_⟩
  refine wpAnyN_tk (i := 12) (v := ?_) rfl (by kernel_rfl) (fun _ _ _ h => h) (Or.inl ⟨by rfl, ?_⟩) (by assumption) ?_
  rotate_left
  · intro w hSw; ((try dsimp only at hSw); go_simp; (try with_reducible rfl))
  simp only [Act.put, List.setIfInBounds_toArray, List.set_cons_zero, List.set_cons_succ]
  refine wpAnyN_done (by kernel_rfl) ?_ _
  have hnf := (hnbf.low (w := w) (by have := (((hst0.out.trans hsa).trans hsb).trans hsc).trans hsd; exact this.size)).congr (l' := allE age p c ls) (by simp [allE])
  clear hnbf hnbd hnbc hnbb hnba
  go_wp2_with fail
  go_ret
  exact ⟨_, _, rfl, hst, hnf⟩
/-- The first of the lines that a predicate holds of; -1: none. -/
def firstIx (pr : LineM → Bool) (ls : List LineM) : Int := match ls.findIdx? pr with
  | some i => (i : Int)
  | none => -1
theorem firstIx_some {pr : LineM → Bool} {ls : List LineM} {k : Nat} {x : LineM} (hx : ls[k]? = some x) (hp : pr x = true) (hno : ∀ j y, j < k → ls[j]? = some y → pr y = false) : firstIx pr ls = (k : Int) := by
  have hk := (List.getElem?_eq_some_iff.1 hx).1
  have : ls.findIdx? pr = some k := by
    rw [List.findIdx?_eq_some_iff_getElem]
    refine ⟨hk, ?_, fun j hj => ?_⟩
    · rw [(List.getElem?_eq_some_iff.1 hx).2]; exact hp
    · rw [hno j _ hj (List.getElem?_eq_getElem (by omega))]; simp
  unfold firstIx; rw [this]
theorem firstIx_none {pr : LineM → Bool} {ls : List LineM} (hno : ∀ j y, j < ls.length → ls[j]? = some y → pr y = false) : firstIx pr ls = -1 := by
  have : ls.findIdx? pr = none := by
    rw [List.findIdx?_eq_none_iff]
    intro x hx
    obtain ⟨j, hj⟩ := List.mem_iff_getElem?.1 hx
    exact hno j x (List.getElem?_eq_some_iff.1 hj).1 hj
  unfold firstIx; rw [this]
theorem firstIx_any (pr : LineM → Bool) (ls : List LineM) : decide (firstIx pr ls ≥ 0) = ls.any pr := by
  unfold firstIx
  cases h : ls.findIdx? pr with
  | none =>
    rw [List.findIdx?_eq_none_iff] at h
    have : ls.any pr = false := by rw [List.any_eq_false]; intro x hx; simp [h x hx]
    rw [this]; rfl
  | some i =>
    rw [List.findIdx?_eq_some_iff_getElem] at h
    obtain ⟨hi, hp, -⟩ := h
    have : ls.any pr = true := List.any_eq_true.2 ⟨_, List.getElem_mem hi, hp⟩
    rw [this]; simp
/-- What a predicate's function does. -/
def Says (w : World) (o : Own) (fid : Nat) (cp : Array Value) (ls : List LineM) (pr : LineM → Bool) : Prop :=
  ∀ w1 o1, Step Nobody w o w1 o1 → ∀ x bv, x ∈ ls → Bytes w1 o1 bv x.b → Calls Try.prog fid (#[.agg #[.int .u64 (x.e.toNat : Int), bv]] ++ cp) w1 (Ret Nobody w1 o1 fun v _ _ => v = .bool (pr x))
set_option maxRecDepth 100000 in
set_option maxHeartbeats 3200000 in
theorem indexf_any {w : World} {o : Own} {base : Nat} {lv : Value} {ls : List LineM} (h : Lines w o base lv ls) (hn : ls.length ≤ 100000) (fid : Nat) (cp : Array Value) (pr : LineM → Bool)
    (hcall : ∀ (args : Array Value) (x : World), (callFunc fid args).run Try.prog x = .ok (.enter fid args) x) (hs : Says w o fid cp ls pr) :
    Calls Try.prog 138 #[lv, .func (.func fid) #[] cp] w (Ret Nobody w o fun v _ _ => v = .int .i64 (firstIx pr ls)) := by
  obtain ⟨la, lc, rfl⟩ := h.form
  obtain ⟨N, hN⟩ : ∃ N, ls.length = N := ⟨_, rfl⟩
  rw [hN] at h hn ⊢
  have hlH := hidden h
  have hNH := hidden hN
  have hsH := hidden hs
  have hcH := hidden hcall
  have hNi : (0 : Int) ≤ (N : Int) ∧ (N : Int) ≤ 100000 := by omega
  clear h hN hs hcall
  go_enter Try.func138, Try.ntmps138
  go_wp2_with fail
  go_loopw [8] (fun i wr => ∃ (k : Nat) (oj : Own), k ≤ N ∧ i = .int .i64 k ∧ Step Nobody w o wr oj ∧ Hid (∀ j y, j < k → ls[j]? = some y → pr y = false)) (fun i _ => N - (intOf i).toNat)
  case atStart => exact ⟨0, o, by omega, rfl, Step.refl _ _ _, hidden (fun j y hj => by omega)⟩
  case round =>
    obtain ⟨k, oj, hk, rfl, hst, hno⟩ := hrel
    by_cases hlt : k < N
    · obtain ⟨x, hx⟩ : ∃ x, ls[k]? = some x := ⟨_, List.getElem?_eq_getElem (by rw [hNH.out]; exact hlt)⟩
      obtain ⟨b, off, bv, hab, hrg, hby, -, -, -⟩ := (hlH.out.step hst (fun h => h)).at hx
      subst hab
      have hld := hidden (load113 hrg)
      have hf := hsH.out wr oj hst x bv (List.mem_of_getElem? hx) hby
      have hck := hcH.out
      have hfH := hidden hf
      have hxH := hidden hx
      clear hrg hby hf hx
      go_wp2_with ((with_reducible apply lit_load); exact hld.out; simp only [Act.put, List.setIfInBounds_toArray, List.set_cons_zero, List.set_cons_succ])
      refine hfH.out.mono ?_; rintro e w1 ⟨v1, o1, rfl, hs1, rfl⟩
      have hst := hst.trans hs1
      clear hs1 hfH hld hck
      cases hp : pr x with
      | true =>
        have hfx := firstIx_some hxH.out hp hno.out
        go_wp2_with fail
        go_ret
        exact ⟨_, o1, rfl, hst, by rw [hfx]; rfl⟩
      | false =>
        have hno2 : Hid (∀ j y, j < k + 1 → ls[j]? = some y → pr y = false) := hidden fun j y hj hy => by
          by_cases hjk : j = k
          · subst hjk; rw [hxH.out] at hy; cases hy; exact hp
          · exact hno.out j y (by omega) hy
        clear hp
        go_wp2_with fail
        go_roundw
        case rel => exact ⟨k + 1, o1, by omega, by go_num, hst, hno2⟩
        case measure => simp [intOf]; omega
    · obtain rfl : N = k := by omega
      have hfx := hidden (firstIx_none (pr := pr) (ls := ls) (fun j y hj hy => hno.out j y (by rw [← hNH.out]; exact hj) hy))
      go_wp2_with fail
      go_ret
      exact ⟨_, oj, rfl, hst, by rw [hfx.out]; rfl⟩
set_option maxRecDepth 100000 in
set_option maxHeartbeats 3200000 in
theorem contains_any {w : World} {o : Own} {base : Nat} {lv : Value} {ls : List LineM} (h : Lines w o base lv ls) (hn : ls.length ≤ 100000) (fid : Nat) (cp : Array Value) (pr : LineM → Bool)
    (hcall : ∀ (args : Array Value) (x : World), (callFunc fid args).run Try.prog x = .ok (.enter fid args) x) (hs : Says w o fid cp ls pr) :
    Calls Try.prog 111 #[lv, .func (.func fid) #[] cp] w (Ret Nobody w o fun v _ _ => v = .bool (ls.any pr)) := by
  have hix := hidden (indexf_any h hn fid cp pr hcall hs)
  have ha := firstIx_any pr ls
  obtain ⟨I, hI⟩ : ∃ I, firstIx pr ls = I := ⟨_, rfl⟩
  rw [hI] at hix ha
  have haH := hidden ha
  clear h hcall hs hI ha
  go_enter Try.func111, Try.ntmps111
  go_wp2_with fail
  refine hix.out.mono ?_; rintro e w1 ⟨v1, o1, rfl, hs1, rfl⟩
  go_wp2_with fail
  go_ret
  exact ⟨_, o1, rfl, hs1, by rw [← haH.out]; rfl⟩
/-- May a line not be, of an epoch up to one? -/
def badL (top : BitVec 64) (x : LineM) : Bool := decide (x.e.toNat < 1) || decide (top.toNat < x.e.toNat) || decide (x.b.length < 1) || decide (4096 < x.b.length)
set_option maxRecDepth 100000 in
set_option maxHeartbeats 3200000 in
theorem good1_any {w : World} {o : Own} (top : BitVec 64) (tb : Nat) (ht : Box w o tb 36 (.int .u64 (top.toNat : Int))) (x : LineM) (bv : Value) (hb : Bytes w o bv x.b) :
    Calls Try.prog 136 #[.agg #[.int .u64 (x.e.toNat : Int), bv], .pointer (some ⟨tb, 0, none⟩)] w (Ret Nobody w o fun v _ _ => v = .bool (badL top x)) := by
  obtain ⟨ba, bc, rfl⟩ := slc_form hb
  have s1 := (Step.refl Nobody w o).alloc (.cells #[.int .u64 (x.e.toNat : Int), .slice ba x.b.length bc] 113) (0, 0)
  have ct := (ht.step s1 (fun h => h)).cell
  have b1 : (w.alloc (.cells #[.int .u64 (x.e.toNat : Int), .slice ba x.b.length bc] 113)).heap[w.heap.size]? = some (.cells [.int .u64 (x.e.toNat : Int), .slice ba x.b.length bc].toArray 113 (0, 0)) := heap_alloc_new w _
  have c0 := cell_of_block b1 0
  have c1 := cell_of_block b1 1
  simp only [List.getElem?_cons_zero, List.getElem?_cons_succ] at c0 c1
  have hsH := hidden s1
  have hu : badL top x = (decide (x.e.toNat < 1) || decide (top.toNat < x.e.toNat) || decide (x.b.length < 1) || decide (4096 < x.b.length)) := rfl
  have huH := hidden hu
  have he := x.e.isLt
  have ht2 := top.isLt
  generalize x.b.length = bl at *
  generalize x.e.toNat = xe at *
  generalize top.toNat = te at *
  clear s1 b1 hb ht hu
  by_cases h1 : xe < 1
  · have h1I : (xe : Int) < 1 := by omega
    go_enter Try.func136, Try.ntmps136
    go_wp2_with fail
    go_ret
    exact ⟨_, _, rfl, hsH.out, by rw [huH.out]; simp [h1]⟩
  · have h1I : ¬ (xe : Int) < 1 := by omega
    by_cases h2 : te < xe
    · have h2I : (te : Int) < (xe : Int) := by omega
      go_enter Try.func136, Try.ntmps136
      go_wp2_with fail
      go_ret
      exact ⟨_, _, rfl, hsH.out, by rw [huH.out]; simp [h1, h2]⟩
    · have h2I : ¬ (te : Int) < (xe : Int) := by omega
      by_cases h3 : bl < 1
      · have h3I : (bl : Int) < 1 := by omega
        go_enter Try.func136, Try.ntmps136
        go_wp2_with fail
        go_ret
        exact ⟨_, _, rfl, hsH.out, by rw [huH.out]; simp [h1, h2, h3]⟩
      · have h3I : ¬ (bl : Int) < 1 := by omega
        go_enter Try.func136, Try.ntmps136
        go_wp2_with fail
        go_ret
        exact ⟨_, _, rfl, hsH.out, by
          rw [huH.out]
          by_cases h4 : 4096 < bl
          · have h4I : (4096 : Int) < (bl : Int) := by omega
            simp [h1, h2, h3, h4, h4I]
          · have h4I : ¬ (4096 : Int) < (bl : Int) := by omega
            simp [h1, h2, h3, h4, h4I]⟩
set_option maxRecDepth 100000 in
set_option maxHeartbeats 3200000 in
theorem good_any {w : World} {o : Own} {base : Nat} {lv : Value} {ls : List LineM} (h : Lines w o base lv ls) (hn : ls.length ≤ 100000) (top : BitVec 64) :
    Calls Try.prog 107 #[lv, .int .u64 (top.toNat : Int)] w (Ret Nobody w o fun v _ _ => v = .bool (!ls.any (badL top))) := by
  have s1 := (Step.refl Nobody w o).alloc (.cells #[.int .u64 (top.toNat : Int)] 36) (0, 0)
  have hb := Box.new w o 36 (.int .u64 (top.toNat : Int))
  have hc := contains_any (h.step s1 (fun h => h)) hn 136 #[.pointer (some ⟨w.heap.size, 0, none⟩)] (badL top) Try.call136 (fun w1 o1 st x bv _ hby => good1_any top w.heap.size (hb.step st (fun h => h)) x bv hby)
  obtain ⟨la, lc, rfl⟩ := h.form
  have hmf : ∀ (fn : Fn) (first cap : Array Value) (w : World), (Instr.makeFunc fn first cap).run Try.prog w = .ok (.func fn first cap) w := fun _ _ _ _ => rfl
  have hcH := hidden hc
  clear hc hb h
  have hsH := hidden s1
  clear s1
  go_enter Try.func107, Try.ntmps107
  go_wp2_with fail
  refine hcH.out.mono ?_; rintro e w1 ⟨v1, o1, rfl, hs1, rfl⟩
  go_wp2_with fail
  go_ret
  exact ⟨_, o1, rfl, hsH.out.trans hs1, rfl⟩
end Go.Proofs.YtfgggkheadfiaaaR
/- The store as a plain Lean thing, and how it lies in memory; contracts: Dead, Kept, may. -/
namespace Go.Proofs.YtfgggkheadfiaaaR
open Go Go.RowKit
attribute [local go_sem ↓] Go.wp_at_zero Go.wp_at_succ

structure KeptM where
  promised : BitVec 64
  current : BitVec 64
  lines : List LineM
/-- cur: the area that is written to; oth: the other one. -/
structure StoreM where
  cur : LogM
  oth : LogM
  d : DiskM
  pages : Nat
  age : BitVec 64
  kept : KeptM
  dead : Bool
def In4 (S A B D : Nat) : Nat → Prop := fun t => t = S ∨ t = A ∨ t = B ∨ t = D
def storeCells (pd : Nat) (x1 x2 : Value) (pages k : Nat) (age p c : BitVec 64) (kv : Value) (dead : Bool) : List Value :=
  [.pointer (some ⟨pd, 0, none⟩), x1, x2, .int .i64 (pages : Int), .int .i64 (k : Int), .int .u64 (age.toNat : Int), .int .u64 (p.toNat : Int), .int .u64 (c.toNat : Int), kv, .bool dead]
/-- The store's own struct: area k's log lies at pa, the other one's at pb. -/
def StoreBox (w : World) (o : Own) (S ps pd pa pb k : Nat) (kv : Value) (s : StoreM) : Prop :=
  ∃ x1 x2, w.heap[ps]? = some (.cells (storeCells pd x1 x2 s.pages k s.age s.kept.promised s.kept.current kv s.dead).toArray 156 (0, 0)) ∧
    ((k = 0 ∧ x1 = .pointer (some ⟨pa, 0, none⟩) ∧ x2 = .pointer (some ⟨pb, 0, none⟩)) ∨ (k = 1 ∧ x1 = .pointer (some ⟨pb, 0, none⟩) ∧ x2 = .pointer (some ⟨pa, 0, none⟩))) ∧ o ps = (S, 0)
/-- The store s lies at block ps, over the disk at block pd; its blocks are the objects' S, A, B (and D, the disk's); what is kept is not older than base. -/
def StoreAt (w : World) (o : Own) (S A B D ps pd base : Nat) (s : StoreM) : Prop :=
  ∃ X Y pa pb k kv, ((X = A ∧ Y = B) ∨ (X = B ∧ Y = A)) ∧ StoreBox w o S ps pd pa pb k kv s ∧ Lines w o base kv s.kept.lines ∧ LogAt w o X pa pd s.cur ∧ LogAt w o Y pb pd s.oth ∧ DiskAt w o D pd s.d
theorem StoreBox.step {T : Nat → Prop} {w w' : World} {o o' : Own} {S ps pd pa pb k : Nat} {kv : Value} {s : StoreM} (h : StoreBox w o S ps pd pa pb k kv s) (st : Step T w o w' o') (hS : ¬ T S) : StoreBox w' o' S ps pd pa pb k kv s := by
  obtain ⟨x1, x2, h1, h2, h3⟩ := h
  have hl := lt_of_block h1
  exact ⟨x1, x2, by rw [st.block ps hl (by rw [h3]; exact hS)]; exact h1, h2, by rw [st.own ps hl]; exact h3⟩
theorem StoreAt.step {T : Nat → Prop} {w w' : World} {o o' : Own} {S A B D ps pd base : Nat} {s : StoreM} (h : StoreAt w o S A B D ps pd base s) (st : Step T w o w' o') (hT : ∀ t, T t → t ≠ 0 ∧ ¬ In4 S A B D t) : StoreAt w' o' S A B D ps pd base s := by
  obtain ⟨X, Y, pa, pb, k, kv, hp, hb, hl, ha, hbb, hd⟩ := h
  have h0 : ¬ T 0 := fun h => (hT 0 h).1 rfl
  have hS : ¬ T S := fun h => (hT S h).2 (.inl rfl)
  have hA : ¬ T A := fun h => (hT A h).2 (.inr (.inl rfl))
  have hB : ¬ T B := fun h => (hT B h).2 (.inr (.inr (.inl rfl)))
  have hD : ¬ T D := fun h => (hT D h).2 (.inr (.inr (.inr rfl)))
  refine ⟨X, Y, pa, pb, k, kv, hp, hb.step st hS, hl.step st h0, ?_, ?_, hd.step st hD⟩
  · rcases hp with ⟨rfl, rfl⟩ | ⟨rfl, rfl⟩
    · exact ha.step st hA h0
    · exact ha.step st hB h0
  · rcases hp with ⟨rfl, rfl⟩ | ⟨rfl, rfl⟩
    · exact hbb.step st hB h0
    · exact hbb.step st hA h0
theorem StoreAt.step0 {w w' : World} {o o' : Own} {S A B D ps pd base : Nat} {s : StoreM} (h : StoreAt w o S A B D ps pd base s) (st : Step Nobody w o w' o') : StoreAt w' o' S A B D ps pd base s := h.step st fun _ h => h.elim
theorem StoreAt.low {w : World} {o : Own} {S A B D ps pd base b : Nat} {s : StoreM} (h : StoreAt w o S A B D ps pd base s) (hb : b ≤ base) : StoreAt w o S A B D ps pd b s := by
  obtain ⟨X, Y, pa, pb, k, kv, hp, hx, hl, ha, hbb, hd⟩ := h
  exact ⟨X, Y, pa, pb, k, kv, hp, hx, hl.low hb, ha, hbb, hd⟩
theorem StoreBox.cells {w : World} {o : Own} {S ps pd pa pb k : Nat} {kv : Value} {s : StoreM} (h : StoreBox w o S ps pd pa pb k kv s) :
    (w.cell? ⟨ps, 0, none⟩ = some (.pointer (some ⟨pd, 0, none⟩)) ∧ w.cell? ⟨ps, 3, none⟩ = some (.int .i64 (s.pages : Int)) ∧ w.cell? ⟨ps, 4, none⟩ = some (.int .i64 (k : Int)) ∧ w.cell? ⟨ps, 5, none⟩ = some (.int .u64 (s.age.toNat : Int)) ∧
     w.cell? ⟨ps, 6, none⟩ = some (.int .u64 (s.kept.promised.toNat : Int)) ∧ w.cell? ⟨ps, 7, none⟩ = some (.int .u64 (s.kept.current.toNat : Int)) ∧ w.cell? ⟨ps, 8, none⟩ = some kv ∧ w.cell? ⟨ps, 9, none⟩ = some (.bool s.dead)) ∧
    (w.cell? ⟨ps, 1 + k, none⟩ = some (.pointer (some ⟨pa, 0, none⟩)) ∧ w.cell? ⟨ps, 1 + (1 - k), none⟩ = some (.pointer (some ⟨pb, 0, none⟩))) ∧ (∀ i, w.frozen? ⟨ps, i, none⟩ = false) ∧ k ≤ 1 ∧ ps < w.heap.size ∧ (o ps).1 = S ∧
    w.rangeAt ps 6 [.int .u64 (s.kept.promised.toNat : Int), .int .u64 (s.kept.current.toNat : Int), kv] := by
  obtain ⟨x1, x2, h1, h2, h3⟩ := h
  have c := cell_of_block h1
  refine ⟨⟨c 0, c 3, c 4, c 5, c 6, c 7, c 8, c 9⟩, ?_, fun i => free_of_block h1 i, ?_, lt_of_block h1, by rw [h3], fun j v hj => ?_⟩
  · rcases h2 with ⟨rfl, rfl, rfl⟩ | ⟨rfl, rfl, rfl⟩
    · exact ⟨c 1, c 2⟩
    · exact ⟨c 2, c 1⟩
  · rcases h2 with ⟨rfl, -⟩ | ⟨rfl, -⟩ <;> omega
  · match j with
    | 0 => simp only [List.getElem?_cons_zero, Option.some.injEq] at hj; subst hj; exact c 6
    | 1 => simp only [List.getElem?_cons_succ, List.getElem?_cons_zero, Option.some.injEq] at hj; subst hj; exact c 7
    | 2 => simp only [List.getElem?_cons_succ, List.getElem?_cons_zero, Option.some.injEq] at hj; subst hj; exact c 8
    | j + 3 => simp at hj

set_option maxRecDepth 100000 in
set_option maxHeartbeats 1600000 in
theorem sdead_any {w : World} {o : Own} {S A B D ps pd base : Nat} {s : StoreM} (h : StoreAt w o S A B D ps pd base s) :
    Calls Try.prog 60 #[.pointer (some ⟨ps, 0, none⟩)] w fun e w' => e = .returned (.bool (s.dead || s.d.dead)) ∧ w = w' := by
  obtain ⟨X, Y, pa, pb, k, kv, -, hb, -, -, -, hd⟩ := h
  obtain ⟨⟨c0, -, -, -, -, -, -, c9⟩, -⟩ := hb.cells
  have hdd := dead_any hd
  clear hb hd
  cases h9 : s.dead with
  | true =>
    rw [h9] at c9
    go_enter Try.func60, Try.ntmps60
    go_wp2_with fail
    go_ret
    exact ⟨rfl, rfl⟩
  | false =>
    rw [h9] at c9
    go_enter Try.func60, Try.ntmps60
    go_wp2_with fail
    refine hdd.mono ?_; rintro e w' ⟨rfl, rfl⟩
    go_wp2_with fail
    go_ret
    exact ⟨rfl, rfl⟩

theorem load108at {w : World} {b off : Nat} {p c : BitVec 64} {lv : Value} (hr : w.rangeAt b off [.int .u64 (p.toNat : Int), .int .u64 (c.toNat : Int), lv]) : (Instr.loadAt 108 (.pointer (some ⟨b, off, none⟩))).run Try.prog w = .ok (keptV p c lv) w := load108 hr
/-- How much the laws look at. -/
def small (ls : List LineM) : Prop := ls.length ≤ 1000 ∧ (encs ls).length ≤ 1200000
theorem small_mem {ls : List LineM} (h : small ls) : ∀ x ∈ ls, x.b.length ≤ 1200000 := by
  intro x hx
  have h2 := h.2
  obtain ⟨i, hi⟩ := List.mem_iff_getElem?.1 hx
  have hle := encs_take_le ls (i + 1)
  rw [List.take_add_one, hi] at hle
  have e : encs (ls.take i ++ (some x).toList) = encs (ls.take i) ++ x.enc := encs_snoc _ _
  rw [e, List.length_append, length_enc] at hle
  omega
set_option maxRecDepth 100000 in
set_option maxHeartbeats 1600000 in
theorem skept_any2 {w : World} {o : Own} {S A B D ps pd base : Nat} {s : StoreM} (h : StoreAt w o S A B D ps pd base s) (hsm : small s.kept.lines) :
    Calls Try.prog 64 #[.pointer (some ⟨ps, 0, none⟩)] w (Ret Nobody w o fun v w' o' => ∃ lv, v = keptV s.kept.promised s.kept.current lv ∧ Lines w' o' w.heap.size lv s.kept.lines ∧ o' = ext w o ∧ LooseL w' w.heap.size lv s.kept.lines) := by
  obtain ⟨X, Y, pa, pb, k, kv, -, hb, hl, -, -, -⟩ := h
  obtain ⟨la, lc, rfl⟩ := hl.form
  have s1 := (Step.refl Nobody w o).alloc (.cells #[.int .u64 0, .int .u64 0, .slice none 0 0] 108) (0, 0)
  have b1 : (w.alloc (.cells #[.int .u64 0, .int .u64 0, .slice none 0 0] 108)).heap[w.heap.size]? = some (.cells [.int .u64 0, .int .u64 0, .slice none 0 0].toArray 108 (0, 0)) := heap_alloc_new w _
  have hal := hidden (run_alloc_zero (P := Try.prog) w 108 _ zc108)
  obtain ⟨W1, hW1⟩ : ∃ W1, w.alloc (.cells #[.int .u64 0, .int .u64 0, .slice none 0 0] 108) = W1 := ⟨_, rfl⟩
  rw [hW1] at hal s1 b1
  generalize tagAt o w.heap.size (0, 0) = o1 at *
  obtain ⟨-, -, -, -, -, -, hr⟩ := (hb.step s1 (fun h => h)).cells
  have hld := hidden (load108at hr)
  have hown := hidden (own_any2 (p := s.kept.promised) (c := s.kept.current) (hl.step s1 (fun h => h)) (by have := hsm.1; omega) (fun x hx => by have := small_mem hsm x hx; omega))
  have hz : w.heap.size < W1.heap.size := lt_of_block b1
  have hst := s1
  clear hb hl hW1 hr s1
  go_enter Try.func64, Try.ntmps64
  go_wp2_with (first
    | ((with_reducible apply lit_load); exact hld.out; simp only [Act.put, List.setIfInBounds_toArray, List.set_cons_zero, List.set_cons_succ])
    | ((with_reducible apply lit_alloc); exact hal.out; simp only [Act.put, List.setIfInBounds_toArray, List.set_cons_zero, List.set_cons_succ]))
  refine hown.out.mono ?_; rintro e w2 ⟨v2, o2, rfl, hs2, lv, rfl, hl2, rfl, hz2⟩
  have b2 := (hs2.block _ hz (fun h => h)).trans b1
  have h1c : lv.oneCell' = true := by obtain ⟨a, c, rfl⟩ := hl2.form; rfl
  obtain ⟨hso, hsb⟩ := run_store_agg (P := Try.prog) (ty := 108) (vs := [.int .u64 (s.kept.promised.toNat : Int), .int .u64 (s.kept.current.toNat : Int), lv]) b2 rfl (by kernel_rfl) (by obtain ⟨a, c, rfl⟩ := hl2.form; rfl)
  have hsoH := hidden hso
  have hst2 := hst.trans hs2
  have hstF := hst2.setCells w.heap.size 0 [.int .u64 (s.kept.promised.toNat : Int), .int .u64 (s.kept.current.toNat : Int), lv] (.inr (Nat.le_refl _))
  have hq1 : ∀ k, w.heap.size ≤ k → (ext w o k).1 = 0 := fun k hk => by unfold ext; rw [if_neg (by omega)]
  have hset := (Step.refl (Only 1) w2 (fun k => if k = w.heap.size then (1, 0) else ext W1 o1 k)).setCells w.heap.size 0 [.int .u64 (s.kept.promised.toNat : Int), .int .u64 (s.kept.current.toNat : Int), lv] (.inl (by simp; rfl))
  have hlF := hidden (show Lines (w2.setCells w.heap.size 0 [.int .u64 (s.kept.promised.toNat : Int), .int .u64 (s.kept.current.toNat : Int), lv]) (ext w o) w.heap.size lv s.kept.lines from by
    obtain ⟨cs, k1, k2, k3, k4⟩ := hl2.low (show w.heap.size + 1 ≤ W1.heap.size by omega)
    refine ⟨cs, ?_, ⟨k2.1, fun i x hx => ?_⟩, k3.low (by omega), fun u hu => (k4 u hu).low (by omega)⟩
    · rcases k1 with h | ⟨b, off, cap, rfl, y1, y2, y3, y4, y5⟩
      · exact .inl h
      · have hbk := k3 b rfl
        refine .inr ⟨b, off, cap, rfl, y1, y2, hq1 b (by omega), by rw [size_setCells]; exact y4, range_same y5 (heap_setCells_other _ _ _ _ _ (by omega))⟩
    · obtain ⟨m1, bv, m2, m3⟩ := k2.2 i x hx
      refine ⟨m1, bv, m2, ?_⟩
      have hbf := k4 bv (List.mem_of_getElem? m2)
      rcases m3 with h | ⟨b, off, cap, rfl, y1, y2, y3, y4, y5⟩
      · exact .inl h
      · have hbk := hbf b rfl
        exact .inr ⟨b, off, cap, rfl, y1, y2, hq1 b (by omega), by rw [size_setCells]; exact y4, range_same y5 (heap_setCells_other _ _ _ _ _ (by omega))⟩)
  have hzF := hidden ((hz2.setCells (off := 0) (vs := [.int .u64 (s.kept.promised.toNat : Int), .int .u64 (s.kept.current.toNat : Int), lv]) hz).low (Nat.le_of_lt hz))
  clear hz2 hso b2 hl2 hs2 hst hst2 hset hal hld hown h1c hz b1
  go_wp2_with ((with_reducible apply lit_store); exact hsoH.out; simp only [Act.put])
  refine bodyPost_ret (results_cell_row rfl _ _ w.heap.size 108 _ (0, 0) _ rfl hsb Try.underlying108 rfl size108) rfl ?_
  exact ⟨_, ext w o, rfl, hstF.reown _ (fun k hk => if_pos hk), _, rfl, hlF.out, rfl, hzF.out⟩
theorem skept_any {w : World} {o : Own} {S A B D ps pd base : Nat} {s : StoreM} (h : StoreAt w o S A B D ps pd base s) (hsm : small s.kept.lines) :
    Calls Try.prog 64 #[.pointer (some ⟨ps, 0, none⟩)] w (Ret Nobody w o fun v w' o' => ∃ lv, v = keptV s.kept.promised s.kept.current lv ∧ Lines w' o' w.heap.size lv s.kept.lines ∧ o' = ext w o) := by
  refine (skept_any2 h hsm).mono ?_
  rintro e w' ⟨v, o', rfl, hs, lv, h1, h2, h3, -⟩
  exact ⟨v, o', rfl, hs, lv, h1, h2, h3⟩
set_option maxRecDepth 100000 in
set_option maxHeartbeats 1600000 in
theorem may_any {w : World} {o : Own} {S A B D ps pd base : Nat} {s : StoreM} (h : StoreAt w o S A B D ps pd base s) (fid : Nat) (cp : Array Value) (r : Bool)
    (hcall : ∀ (args : Array Value) (x : World), (callFunc fid args).run Try.prog x = .ok (.enter fid args) x) (hf : Calls Try.prog fid cp w (Ret Nobody w o fun v _ _ => v = .bool r)) :
    Calls Try.prog 100 #[.pointer (some ⟨ps, 0, none⟩), .func (.func fid) #[] cp] w (Ret Nobody w o fun v _ _ => v = .int .i64 (if s.dead || s.d.dead then 9 else if r then 0 else 1)) := by
  have hd := hidden (sdead_any h)
  have hck := hcall
  have hfH := hidden hf
  clear h hcall hf
  cases hdd : (s.dead || s.d.dead) with
  | true =>
    rw [hdd] at hd
    go_enter Try.func100, Try.ntmps100
    go_wp2_with fail
    refine hd.out.mono ?_; rintro e w' ⟨rfl, rfl⟩
    go_wp2_with fail
    go_ret
    exact ⟨_, o, rfl, Step.refl _ _ _, rfl⟩
  | false =>
    rw [hdd] at hd
    clear hdd
    go_enter Try.func100, Try.ntmps100
    go_wp2_with fail
    refine hd.out.mono ?_; rintro e w' ⟨rfl, rfl⟩
    go_wp2_with fail
    have hf2 := hfH.out
    refine hf2.mono ?_; rintro e w1 ⟨v1, o1, rfl, hs1, rfl⟩
    clear hf2 hfH hck
    cases r with
    | true =>
      go_wp2_with fail
      go_ret
      exact ⟨_, o1, rfl, hs1, rfl⟩
    | false =>
      go_wp2_with fail
      go_ret
      exact ⟨_, o1, rfl, hs1, rfl⟩
end Go.Proofs.YtfgggkheadfiaaaR
/- Contracts of the store's closures: what Promise, Adopt and Append ask first. -/
namespace Go.Proofs.YtfgggkheadfiaaaR
open Go Go.RowKit
attribute [local go_sem ↓] Go.wp_at_zero Go.wp_at_succ

def KeptM.promiseOk (k : KeptM) (e : BitVec 64) : Bool := decide (k.promised.toNat < e.toNat) && decide (e.toNat ≤ 281474976710656)
def KeptM.adoptOk (k : KeptM) (e : BitVec 64) (ls : List LineM) : Bool :=
  decide (k.promised.toNat ≤ e.toNat) && decide (k.current.toNat < e.toNat) && decide (e.toNat ≤ 281474976710656) && decide (ls.length ≤ 256) && !ls.any (badL e)
def top48 : BitVec 64 := 281474976710656#64
def KeptM.appendOk (k : KeptM) (ls : List LineM) : Bool :=
  decide (0 < ls.length) && decide (ls.length + k.lines.length ≤ 256) && !ls.any (badL top48) && !ls.any fun x => !(x.e == k.current)
section
variable {w : World} {o : Own} {S A B D ps pd base : Nat} {s : StoreM}
set_option maxRecDepth 100000 in
set_option maxHeartbeats 1600000 in
theorem promise1_any (h : StoreAt w o S A B D ps pd base s) (e : BitVec 64) (eb sb : Nat) (he : Box w o eb 36 (.int .u64 (e.toNat : Int))) (hs : Box w o sb 90 (.pointer (some ⟨ps, 0, none⟩))) :
    Calls Try.prog 101 #[.pointer (some ⟨eb, 0, none⟩), .pointer (some ⟨sb, 0, none⟩)] w (Ret Nobody w o fun v _ _ => v = .bool (s.kept.promiseOk e)) := by
  obtain ⟨X, Y, pa, pb, k, kv, -, hb, -, -, -, -⟩ := h
  obtain ⟨⟨-, -, -, -, c6, -, -, -⟩, -⟩ := hb.cells
  have ce := he.cell
  have cs := hs.cell
  unfold KeptM.promiseOk
  have hst := hidden (Step.refl Nobody w o).drew
  have hS := hidden (And.intro ce (And.intro cs c6))
  generalize s.kept.promised.toNat = P at *
  generalize e.toNat = E at *
  clear hb he hs ce cs c6
  by_cases h1 : P < E
  · have h1I : (P : Int) < (E : Int) := by omega
    obtain ⟨r, hr⟩ : ∃ r, decide (E ≤ 281474976710656) = r := ⟨_, rfl⟩
    have hrI : decide ((E : Int) ≤ 281474976710656) = r := by rw [← hr]; apply decide_eq_decide.2; omega
    have hrH := hidden hrI
    have hfin := hidden (show (decide (P < E) && decide (E ≤ 281474976710656)) = r by rw [hr]; simp [h1])
    clear hr hrI h1
    go_enter Try.func101, Try.ntmps101
    go_wp2_with fail
    refine wp_region_need (fun w' => w'.cell? ⟨eb, 0, none⟩ = some (.int .u64 (E : Int)) ∧ w'.cell? ⟨sb, 0, none⟩ = some (.pointer (some ⟨ps, 0, none⟩)) ∧ w'.cell? ⟨ps, 6, none⟩ = some (.int .u64 (P : Int))) (fun _ => true) (by kernel_rfl) hS.out (fun hHeld => ?_)
    refine wpAnyN_tk (i := 0) (v := ?_) rfl (by kernel_rfl) (fun _ _ _ h => h) (Or.inl ⟨by rfl, ?_⟩) (by assumption) ?_
    rotate_left
    · intro w hSw; ((try dsimp only at hSw); go_simp; (try with_reducible rfl))
    simp only [Act.put, List.setIfInBounds_toArray, List.set_cons_zero, List.set_cons_succ]
    refine wpAnyN_tk (i := 1) (v := ?_) rfl (by kernel_rfl) (fun _ _ _ h => h) (Or.inl ⟨by rfl, ?_⟩) (by assumption) ?_
    rotate_left
    · intro w hSw; ((try dsimp only at hSw); go_simp; (try with_reducible rfl))
    simp only [Act.put, List.setIfInBounds_toArray, List.set_cons_zero, List.set_cons_succ]
    refine wpAnyN_tk (i := 2) (v := ?_) rfl (by kernel_rfl) (fun _ _ _ h => h) (Or.inl ⟨by rfl, ?_⟩) (by assumption) ?_
    rotate_left
    · intro w hSw; ((try dsimp only at hSw); go_simp; (try with_reducible rfl))
    simp only [Act.put, List.setIfInBounds_toArray, List.set_cons_zero, List.set_cons_succ]
    refine wpAnyN_tk (i := 3) (v := ?_) rfl (by kernel_rfl) (fun _ _ _ h => h) (Or.inl ⟨by rfl, ?_⟩) (by assumption) ?_
    rotate_left
    · intro w hSw; ((try dsimp only at hSw); go_simp; (try with_reducible rfl))
    simp only [Act.put, List.setIfInBounds_toArray, List.set_cons_zero, List.set_cons_succ]
    refine wpAnyN_tk (i := 4) (v := ?_) rfl (by kernel_rfl) (fun _ _ _ h => h) (Or.inl ⟨by rfl, ?_⟩) (by assumption) ?_
    rotate_left
    · intro w hSw; ((try dsimp only at hSw); go_simp; (try with_reducible rfl))
    simp only [Act.put, List.setIfInBounds_toArray, List.set_cons_zero, List.set_cons_succ]
    refine wpAnyN_tk (i := 5) (v := ?_) rfl (by kernel_rfl) (fun _ _ _ h => h) (Or.inl ⟨by rfl, ?_⟩) (by assumption) ?_
    rotate_left
    · intro w hSw; ((try dsimp only at hSw); go_simp; (try with_reducible rfl))
    simp only [Act.put, List.setIfInBounds_toArray, List.set_cons_zero, List.set_cons_succ]
    refine wpAnyN_tk (i := 6) (v := .bool true) rfl (by kernel_rfl) (fun _ _ _ h => h) (Or.inl ⟨by rfl, fun w hSw => by (try dsimp only at hSw); go_simp⟩) (by assumption) ?_
    simp only [Act.put, List.setIfInBounds_toArray, List.set_cons_zero, List.set_cons_succ]
    refine wpAnyN_tk (i := 7) (v := ?_) rfl (by kernel_rfl) (fun _ _ _ h => h) (Or.inl ⟨by rfl, ?_⟩) (by assumption) ?_
    rotate_left
    · intro w hSw; ((try dsimp only at hSw); go_simp; (try with_reducible rfl))
    simp only [Act.put, List.setIfInBounds_toArray, List.set_cons_zero, List.set_cons_succ]
    refine wpAnyN_tk (i := 8) (v := ?_) rfl (by kernel_rfl) (fun _ _ _ h => h) (Or.inl ⟨by rfl, ?_⟩) (by assumption) ?_
    rotate_left
    · intro w hSw; ((try dsimp only at hSw); go_simp; (try with_reducible rfl))
    simp only [Act.put, List.setIfInBounds_toArray, List.set_cons_zero, List.set_cons_succ]
    refine wpAnyN_tk (i := 9) (v := .bool r) rfl (by kernel_rfl) (fun _ _ _ h => h) (Or.inl ⟨by rfl, fun w hSw => by (try dsimp only at hSw); go_simp; exact hrH.out⟩) (by assumption) ?_
    simp only [Act.put, List.setIfInBounds_toArray, List.set_cons_zero, List.set_cons_succ]
    refine wpAnyN_tk (i := 10) (v := .bool r) rfl (by kernel_rfl) (fun _ _ _ h => h) (Or.inl ⟨by rfl, fun w hSw => by (try dsimp only at hSw); go_simp⟩) (by assumption) ?_
    simp only [Act.put, List.setIfInBounds_toArray, List.set_cons_zero, List.set_cons_succ]
    refine wpAnyN_tk (i := 11) (v := ?_) rfl (by kernel_rfl) (fun _ _ _ h => h) (Or.inl ⟨by rfl, ?_⟩) (by assumption) ?_
    rotate_left
    · intro w hSw; ((try dsimp only at hSw); go_simp; (try with_reducible rfl))
    simp only [Act.put, List.setIfInBounds_toArray, List.set_cons_zero, List.set_cons_succ]
    refine wpAnyN_done (by kernel_rfl) ?_ _
    go_wp2_with fail
    go_ret
    exact ⟨_, o, rfl, hst.out, by rw [hfin.out]; rfl⟩
  · have h1I : ¬ (P : Int) < (E : Int) := by omega
    have hfin := hidden (show (decide (P < E) && decide (E ≤ 281474976710656)) = false by simp [h1])
    clear h1
    go_enter Try.func101, Try.ntmps101
    go_wp2_with fail
    refine wp_region_need (fun w' => w'.cell? ⟨eb, 0, none⟩ = some (.int .u64 (E : Int)) ∧ w'.cell? ⟨sb, 0, none⟩ = some (.pointer (some ⟨ps, 0, none⟩)) ∧ w'.cell? ⟨ps, 6, none⟩ = some (.int .u64 (P : Int))) (fun _ => true) (by kernel_rfl) hS.out (fun hHeld => ?_)
    refine wpAnyN_tk (i := 0) (v := ?_) rfl (by kernel_rfl) (fun _ _ _ h => h) (Or.inl ⟨by rfl, ?_⟩) (by assumption) ?_
    rotate_left
    · intro w hSw; ((try dsimp only at hSw); go_simp; (try with_reducible rfl))
    simp only [Act.put, List.setIfInBounds_toArray, List.set_cons_zero, List.set_cons_succ]
    refine wpAnyN_tk (i := 1) (v := ?_) rfl (by kernel_rfl) (fun _ _ _ h => h) (Or.inl ⟨by rfl, ?_⟩) (by assumption) ?_
    rotate_left
    · intro w hSw; ((try dsimp only at hSw); go_simp; (try with_reducible rfl))
    simp only [Act.put, List.setIfInBounds_toArray, List.set_cons_zero, List.set_cons_succ]
    refine wpAnyN_tk (i := 2) (v := ?_) rfl (by kernel_rfl) (fun _ _ _ h => h) (Or.inl ⟨by rfl, ?_⟩) (by assumption) ?_
    rotate_left
    · intro w hSw; ((try dsimp only at hSw); go_simp; (try with_reducible rfl))
    simp only [Act.put, List.setIfInBounds_toArray, List.set_cons_zero, List.set_cons_succ]
    refine wpAnyN_tk (i := 3) (v := ?_) rfl (by kernel_rfl) (fun _ _ _ h => h) (Or.inl ⟨by rfl, ?_⟩) (by assumption) ?_
    rotate_left
    · intro w hSw; ((try dsimp only at hSw); go_simp; (try with_reducible rfl))
    simp only [Act.put, List.setIfInBounds_toArray, List.set_cons_zero, List.set_cons_succ]
    refine wpAnyN_tk (i := 4) (v := ?_) rfl (by kernel_rfl) (fun _ _ _ h => h) (Or.inl ⟨by rfl, ?_⟩) (by assumption) ?_
    rotate_left
    · intro w hSw; ((try dsimp only at hSw); go_simp; (try with_reducible rfl))
    simp only [Act.put, List.setIfInBounds_toArray, List.set_cons_zero, List.set_cons_succ]
    refine wpAnyN_tk (i := 5) (v := ?_) rfl (by kernel_rfl) (fun _ _ _ h => h) (Or.inl ⟨by rfl, ?_⟩) (by assumption) ?_
    rotate_left
    · intro w hSw; ((try dsimp only at hSw); go_simp; (try with_reducible rfl))
    simp only [Act.put, List.setIfInBounds_toArray, List.set_cons_zero, List.set_cons_succ]
    refine wpAnyN_tk (i := 6) (v := .bool false) rfl (by kernel_rfl) (fun _ _ _ h => h) (Or.inl ⟨by rfl, fun w hSw => by (try dsimp only at hSw); go_simp; all_goals omega⟩) (by assumption) ?_
    simp only [Act.put, List.setIfInBounds_toArray, List.set_cons_zero, List.set_cons_succ]
    refine wpAnyN_tk (i := 7) (v := ?_) rfl (by kernel_rfl) (fun _ _ _ h => h) (Or.inl ⟨by rfl, ?_⟩) (by assumption) ?_
    rotate_left
    · intro w hSw; ((try dsimp only at hSw); go_simp; (try with_reducible rfl))
    simp only [Act.put, List.setIfInBounds_toArray, List.set_cons_zero, List.set_cons_succ]
    refine wpAnyN_tk (i := 8) (v := undef) rfl (by kernel_rfl) (fun _ _ _ h => h) (Or.inr ⟨by rfl, rfl⟩) (by assumption) ?_
    simp only [Act.put, List.setIfInBounds_toArray, List.set_cons_zero, List.set_cons_succ]
    refine wpAnyN_tk (i := 9) (v := undef) rfl (by kernel_rfl) (fun _ _ _ h => h) (Or.inr ⟨by rfl, rfl⟩) (by assumption) ?_
    simp only [Act.put, List.setIfInBounds_toArray, List.set_cons_zero, List.set_cons_succ]
    refine wpAnyN_tk (i := 10) (v := .bool false) rfl (by kernel_rfl) (fun _ _ _ h => h) (Or.inl ⟨by rfl, fun w hSw => by (try dsimp only at hSw); go_simp⟩) (by assumption) ?_
    simp only [Act.put, List.setIfInBounds_toArray, List.set_cons_zero, List.set_cons_succ]
    refine wpAnyN_tk (i := 11) (v := ?_) rfl (by kernel_rfl) (fun _ _ _ h => h) (Or.inl ⟨by rfl, ?_⟩) (by assumption) ?_
    rotate_left
    · intro w hSw; ((try dsimp only at hSw); go_simp; (try with_reducible rfl))
    simp only [Act.put, List.setIfInBounds_toArray, List.set_cons_zero, List.set_cons_succ]
    refine wpAnyN_done (by kernel_rfl) ?_ _
    go_wp2_with fail
    go_ret
    exact ⟨_, o, rfl, hst.out, by rw [hfin.out]; rfl⟩
set_option maxRecDepth 100000 in
set_option maxHeartbeats 3200000 in
theorem adopt1_any (h : StoreAt w o S A B D ps pd base s) (e : BitVec 64) (eb sb lb lbase : Nat) (lv : Value) (ls : List LineM) (he : Box w o eb 36 (.int .u64 (e.toNat : Int))) (hs : Box w o sb 90 (.pointer (some ⟨ps, 0, none⟩))) (hlb : Box w o lb 93 lv) (hl : Lines w o lbase lv ls) (hn : ls.length ≤ 100000) :
    Calls Try.prog 106 #[.pointer (some ⟨eb, 0, none⟩), .pointer (some ⟨sb, 0, none⟩), .pointer (some ⟨lb, 0, none⟩)] w (Ret Nobody w o fun v _ _ => v = .bool (s.kept.adoptOk e ls)) := by
  obtain ⟨X, Y, pa, pb, k, kv, -, hb, -, -, -, -⟩ := h
  obtain ⟨⟨-, -, -, -, c6, c7, -, -⟩, -⟩ := hb.cells
  have ce := he.cell
  have cs := hs.cell
  have cl := hlb.cell
  have hgood := hidden (good_any (hl.step (Step.refl Nobody w o).drew (fun h => h)) hn e)
  obtain ⟨la, lc, rfl⟩ := hl.form
  unfold KeptM.adoptOk
  have hst := hidden (Step.refl Nobody w o).drew
  have hS := hidden (And.intro ce (And.intro cs (And.intro cl (And.intro c6 c7))))
  obtain ⟨r, hr⟩ : ∃ r, (!ls.any (badL e)) = r := ⟨_, rfl⟩
  rw [hr] at hgood ⊢
  generalize s.kept.promised.toNat = P at *
  generalize s.kept.current.toNat = C at *
  generalize e.toNat = E at *
  generalize ls.length = N at *
  clear hb he hs ce cs c6 c7 cl hr hl hlb
  by_cases h0 : P ≤ E
  · have h0I : (P : Int) ≤ (E : Int) := by omega
    by_cases h1 : C < E
    · have h1I : (C : Int) < (E : Int) := by omega
      by_cases h2 : E ≤ 281474976710656
      · have h2I : (E : Int) ≤ 281474976710656 := by omega
        by_cases h3 : N ≤ 256
        · have h3I : (N : Int) ≤ 256 := by omega
          have hfin := hidden (show (decide (P ≤ E) && decide (C < E) && decide (E ≤ 281474976710656) && decide (N ≤ 256) && r) = r by simp [h0, h1, h2, h3])
          clear h0 h1 h2 h3
          go_enter Try.func106, Try.ntmps106
          go_wp2_with fail
          refine wp_region_need (fun w' => w'.cell? ⟨eb, 0, none⟩ = some (.int .u64 (E : Int)) ∧ w'.cell? ⟨sb, 0, none⟩ = some (.pointer (some ⟨ps, 0, none⟩)) ∧ w'.cell? ⟨lb, 0, none⟩ = some (.slice la N lc) ∧ w'.cell? ⟨ps, 6, none⟩ = some (.int .u64 (P : Int)) ∧ w'.cell? ⟨ps, 7, none⟩ = some (.int .u64 (C : Int))) (fun _ => true) (by kernel_rfl) hS.out (fun hHeld => ?_)
          refine wpAnyN_tk (i := 0) (v := ?_) rfl (by kernel_rfl) (fun _ _ _ h => h) (Or.inl ⟨by rfl, ?_⟩) (by assumption) ?_
          rotate_left
          · intro w hSw; ((try dsimp only at hSw); go_simp; (try with_reducible rfl))
          simp only [Act.put, List.setIfInBounds_toArray, List.set_cons_zero, List.set_cons_succ]
          refine wpAnyN_tk (i := 1) (v := ?_) rfl (by kernel_rfl) (fun _ _ _ h => h) (Or.inl ⟨by rfl, ?_⟩) (by assumption) ?_
          rotate_left
          · intro w hSw; ((try dsimp only at hSw); go_simp; (try with_reducible rfl))
          simp only [Act.put, List.setIfInBounds_toArray, List.set_cons_zero, List.set_cons_succ]
          refine wpAnyN_tk (i := 2) (v := ?_) rfl (by kernel_rfl) (fun _ _ _ h => h) (Or.inl ⟨by rfl, ?_⟩) (by assumption) ?_
          rotate_left
          · intro w hSw; ((try dsimp only at hSw); go_simp; (try with_reducible rfl))
          simp only [Act.put, List.setIfInBounds_toArray, List.set_cons_zero, List.set_cons_succ]
          refine wpAnyN_tk (i := 3) (v := ?_) rfl (by kernel_rfl) (fun _ _ _ h => h) (Or.inl ⟨by rfl, ?_⟩) (by assumption) ?_
          rotate_left
          · intro w hSw; ((try dsimp only at hSw); go_simp; (try with_reducible rfl))
          simp only [Act.put, List.setIfInBounds_toArray, List.set_cons_zero, List.set_cons_succ]
          refine wpAnyN_tk (i := 4) (v := ?_) rfl (by kernel_rfl) (fun _ _ _ h => h) (Or.inl ⟨by rfl, ?_⟩) (by assumption) ?_
          rotate_left
          · intro w hSw; ((try dsimp only at hSw); go_simp; (try with_reducible rfl))
          simp only [Act.put, List.setIfInBounds_toArray, List.set_cons_zero, List.set_cons_succ]
          refine wpAnyN_tk (i := 5) (v := ?_) rfl (by kernel_rfl) (fun _ _ _ h => h) (Or.inl ⟨by rfl, ?_⟩) (by assumption) ?_
          rotate_left
          · intro w hSw; ((try dsimp only at hSw); go_simp; (try with_reducible rfl))
          simp only [Act.put, List.setIfInBounds_toArray, List.set_cons_zero, List.set_cons_succ]
          refine wpAnyN_tk (i := 6) (v := .bool true) rfl (by kernel_rfl) (fun _ _ _ h => h) (Or.inl ⟨by rfl, fun w hSw => by (try dsimp only at hSw); go_simp; all_goals omega⟩) (by assumption) ?_
          simp only [Act.put, List.setIfInBounds_toArray, List.set_cons_zero, List.set_cons_succ]
          refine wpAnyN_tk (i := 7) (v := ?_) rfl (by kernel_rfl) (fun _ _ _ h => h) (Or.inl ⟨by rfl, ?_⟩) (by assumption) ?_
          rotate_left
          · intro w hSw; ((try dsimp only at hSw); go_simp; (try with_reducible rfl))
          simp only [Act.put, List.setIfInBounds_toArray, List.set_cons_zero, List.set_cons_succ]
          refine wpAnyN_tk (i := 8) (v := ?_) rfl (by kernel_rfl) (fun _ _ _ h => h) (Or.inl ⟨by rfl, ?_⟩) (by assumption) ?_
          rotate_left
          · intro w hSw; ((try dsimp only at hSw); go_simp; (try with_reducible rfl))
          simp only [Act.put, List.setIfInBounds_toArray, List.set_cons_zero, List.set_cons_succ]
          refine wpAnyN_tk (i := 9) (v := ?_) rfl (by kernel_rfl) (fun _ _ _ h => h) (Or.inl ⟨by rfl, ?_⟩) (by assumption) ?_
          rotate_left
          · intro w hSw; ((try dsimp only at hSw); go_simp; (try with_reducible rfl))
          simp only [Act.put, List.setIfInBounds_toArray, List.set_cons_zero, List.set_cons_succ]
          refine wpAnyN_tk (i := 10) (v := ?_) rfl (by kernel_rfl) (fun _ _ _ h => h) (Or.inl ⟨by rfl, ?_⟩) (by assumption) ?_
          rotate_left
          · intro w hSw; ((try dsimp only at hSw); go_simp; (try with_reducible rfl))
          simp only [Act.put, List.setIfInBounds_toArray, List.set_cons_zero, List.set_cons_succ]
          refine wpAnyN_tk (i := 11) (v := ?_) rfl (by kernel_rfl) (fun _ _ _ h => h) (Or.inl ⟨by rfl, ?_⟩) (by assumption) ?_
          rotate_left
          · intro w hSw; ((try dsimp only at hSw); go_simp; (try with_reducible rfl))
          simp only [Act.put, List.setIfInBounds_toArray, List.set_cons_zero, List.set_cons_succ]
          refine wpAnyN_tk (i := 12) (v := ?_) rfl (by kernel_rfl) (fun _ _ _ h => h) (Or.inl ⟨by rfl, ?_⟩) (by assumption) ?_
          rotate_left
          · intro w hSw; ((try dsimp only at hSw); go_simp; (try with_reducible rfl))
          simp only [Act.put, List.setIfInBounds_toArray, List.set_cons_zero, List.set_cons_succ]
          refine wpAnyN_tk (i := 13) (v := ?_) rfl (by kernel_rfl) (fun _ _ _ h => h) (Or.inl ⟨by rfl, ?_⟩) (by assumption) ?_
          rotate_left
          · intro w hSw; ((try dsimp only at hSw); go_simp; (try with_reducible rfl))
          simp only [Act.put, List.setIfInBounds_toArray, List.set_cons_zero, List.set_cons_succ]
          refine wpAnyN_tk (i := 14) (v := .bool true) rfl (by kernel_rfl) (fun _ _ _ h => h) (Or.inl ⟨by rfl, fun w hSw => by (try dsimp only at hSw); go_simp; all_goals omega⟩) (by assumption) ?_
          simp only [Act.put, List.setIfInBounds_toArray, List.set_cons_zero, List.set_cons_succ]
          refine wpAnyN_tk (i := 15) (v := .bool true) rfl (by kernel_rfl) (fun _ _ _ h => h) (Or.inl ⟨by rfl, fun w hSw => by (try dsimp only at hSw); go_simp⟩) (by assumption) ?_
          simp only [Act.put, List.setIfInBounds_toArray, List.set_cons_zero, List.set_cons_succ]
          refine wpAnyN_tk (i := 16) (v := ?_) rfl (by kernel_rfl) (fun _ _ _ h => h) (Or.inl ⟨by rfl, ?_⟩) (by assumption) ?_
          rotate_left
          · intro w hSw; ((try dsimp only at hSw); go_simp; (try with_reducible rfl))
          simp only [Act.put, List.setIfInBounds_toArray, List.set_cons_zero, List.set_cons_succ]
          refine wpAnyN_tk (i := 17) (v := ?_) rfl (by kernel_rfl) (fun _ _ _ h => h) (Or.inl ⟨by rfl, ?_⟩) (by assumption) ?_
          rotate_left
          · intro w hSw; ((try dsimp only at hSw); go_simp; (try with_reducible rfl))
          simp only [Act.put, List.setIfInBounds_toArray, List.set_cons_zero, List.set_cons_succ]
          refine wpAnyN_tk (i := 18) (v := .bool true) rfl (by kernel_rfl) (fun _ _ _ h => h) (Or.inl ⟨by rfl, fun w hSw => by (try dsimp only at hSw); go_simp; all_goals omega⟩) (by assumption) ?_
          simp only [Act.put, List.setIfInBounds_toArray, List.set_cons_zero, List.set_cons_succ]
          refine wpAnyN_tk (i := 19) (v := .bool true) rfl (by kernel_rfl) (fun _ _ _ h => h) (Or.inl ⟨by rfl, fun w hSw => by (try dsimp only at hSw); go_simp⟩) (by assumption) ?_
          simp only [Act.put, List.setIfInBounds_toArray, List.set_cons_zero, List.set_cons_succ]
          refine wpAnyN_tk (i := 20) (v := ?_) rfl (by kernel_rfl) (fun _ _ _ h => h) (Or.inl ⟨by rfl, ?_⟩) (by assumption) ?_
          rotate_left
          · intro w hSw; ((try dsimp only at hSw); go_simp; (try with_reducible rfl))
          simp only [Act.put, List.setIfInBounds_toArray, List.set_cons_zero, List.set_cons_succ]
          refine wpAnyN_tk (i := 21) (v := ?_) rfl (by kernel_rfl) (fun _ _ _ h => h) (Or.inl ⟨by rfl, ?_⟩) (by assumption) ?_
          rotate_left
          · intro w hSw; ((try dsimp only at hSw); go_simp; (try with_reducible rfl))
          simp only [Act.put, List.setIfInBounds_toArray, List.set_cons_zero, List.set_cons_succ]
          refine wpAnyN_tk (i := 22) (v := ?_) rfl (by kernel_rfl) (fun _ _ _ h => h) (Or.inl ⟨by rfl, ?_⟩) (by assumption) ?_
          rotate_left
          · intro w hSw; ((try dsimp only at hSw); go_simp; (try with_reducible rfl))
          simp only [Act.put, List.setIfInBounds_toArray, List.set_cons_zero, List.set_cons_succ]
          refine wpAnyN_tk (i := 23) (v := .bool true) rfl (by kernel_rfl) (fun _ _ _ h => h) (Or.inl ⟨by rfl, fun w hSw => by (try dsimp only at hSw); go_simp; all_goals omega⟩) (by assumption) ?_
          simp only [Act.put, List.setIfInBounds_toArray, List.set_cons_zero, List.set_cons_succ]
          refine wpAnyN_tk (i := 24) (v := .bool true) rfl (by kernel_rfl) (fun _ _ _ h => h) (Or.inl ⟨by rfl, fun w hSw => by (try dsimp only at hSw); go_simp⟩) (by assumption) ?_
          simp only [Act.put, List.setIfInBounds_toArray, List.set_cons_zero, List.set_cons_succ]
          refine wpAnyN_tk (i := 25) (v := ?_) rfl (by kernel_rfl) (fun _ _ _ h => h) (Or.inl ⟨by rfl, ?_⟩) (by assumption) ?_
          rotate_left
          · intro w hSw; ((try dsimp only at hSw); go_simp; (try with_reducible rfl))
          simp only [Act.put, List.setIfInBounds_toArray, List.set_cons_zero, List.set_cons_succ]
          refine wpAnyN_tk (i := 26) (v := ?_) rfl (by kernel_rfl) (fun _ _ _ h => h) (Or.inl ⟨by rfl, ?_⟩) (by assumption) ?_
          rotate_left
          · intro w hSw; ((try dsimp only at hSw); go_simp; (try with_reducible rfl))
          simp only [Act.put, List.setIfInBounds_toArray, List.set_cons_zero, List.set_cons_succ]
          refine wpAnyN_tk (i := 27) (v := ?_) rfl (by kernel_rfl) (fun _ _ _ h => h) (Or.inl ⟨by rfl, ?_⟩) (by assumption) ?_
          rotate_left
          · intro w hSw; ((try dsimp only at hSw); go_simp; (try with_reducible rfl))
          simp only [Act.put, List.setIfInBounds_toArray, List.set_cons_zero, List.set_cons_succ]
          refine wpAnyN_one (i := 28) rfl (by kernel_rfl) ?_
          go_wp2_with fail
          refine hgood.out.mono ?_; rintro e1 w1 ⟨v1, o1, rfl, hs1, rfl⟩
          have hS1 : w1.cell? ⟨eb, 0, none⟩ = some (.int .u64 (E : Int)) ∧ w1.cell? ⟨sb, 0, none⟩ = some (.pointer (some ⟨ps, 0, none⟩)) ∧ w1.cell? ⟨lb, 0, none⟩ = some (.slice la N lc) ∧ w1.cell? ⟨ps, 6, none⟩ = some (.int .u64 (P : Int)) ∧ w1.cell? ⟨ps, 7, none⟩ = some (.int .u64 (C : Int)) := by
            obtain ⟨k1, k2, k3, k4, k5⟩ := hS.out
            have hb := fun (a : Nat) (i : Nat) (v : Value) (hc : w.cell? ⟨a, i, none⟩ = some v) => (World.cell?_of_block (w := w) (w' := w1) (a := ⟨a, i, none⟩) (hs1.block a (World.block_lt_of_cell? w ⟨a, i, none⟩ (by rw [hc])) (fun h => h))).trans hc
            exact ⟨hb _ _ _ k1, hb _ _ _ k2, hb _ _ _ k3, hb _ _ _ k4, hb _ _ _ k5⟩
          clear hHeld
          go_wp2_with fail
          refine ⟨fun _ => hS1, ?_⟩
          refine wpAnyN_tk (i := 29) (v := .bool r) rfl (by kernel_rfl) (fun _ _ _ h => h) (Or.inl ⟨by rfl, fun w hSw => by (try dsimp only at hSw); go_simp⟩) (by assumption) ?_
          simp only [Act.put, List.setIfInBounds_toArray, List.set_cons_zero, List.set_cons_succ]
          refine wpAnyN_tk (i := 30) (v := ?_) rfl (by kernel_rfl) (fun _ _ _ h => h) (Or.inl ⟨by rfl, ?_⟩) (by assumption) ?_
          rotate_left
          · intro w hSw; ((try dsimp only at hSw); go_simp; (try with_reducible rfl))
          simp only [Act.put, List.setIfInBounds_toArray, List.set_cons_zero, List.set_cons_succ]
          refine wpAnyN_done (by kernel_rfl) ?_ _
          clear hS1
          go_wp2_with fail
          go_ret
          exact ⟨_, o1, rfl, hst.out.trans hs1, by rw [hfin.out]; rfl⟩
        · have h3I : ¬ (N : Int) ≤ 256 := by omega
          have hfin := hidden (show (decide (P ≤ E) && decide (C < E) && decide (E ≤ 281474976710656) && decide (N ≤ 256) && r) = false by simp [h0, h1, h2, h3])
          clear h0 h1 h2 h3
          go_enter Try.func106, Try.ntmps106
          go_wp2_with fail
          refine wp_region_need (fun w' => w'.cell? ⟨eb, 0, none⟩ = some (.int .u64 (E : Int)) ∧ w'.cell? ⟨sb, 0, none⟩ = some (.pointer (some ⟨ps, 0, none⟩)) ∧ w'.cell? ⟨lb, 0, none⟩ = some (.slice la N lc) ∧ w'.cell? ⟨ps, 6, none⟩ = some (.int .u64 (P : Int)) ∧ w'.cell? ⟨ps, 7, none⟩ = some (.int .u64 (C : Int))) (fun _ => true) (by kernel_rfl) hS.out (fun hHeld => ?_)
          refine wpAnyN_tk (i := 0) (v := ?_) rfl (by kernel_rfl) (fun _ _ _ h => h) (Or.inl ⟨by rfl, ?_⟩) (by assumption) ?_
          rotate_left
          · intro w hSw; ((try dsimp only at hSw); go_simp; (try with_reducible rfl))
          simp only [Act.put, List.setIfInBounds_toArray, List.set_cons_zero, List.set_cons_succ]
          refine wpAnyN_tk (i := 1) (v := ?_) rfl (by kernel_rfl) (fun _ _ _ h => h) (Or.inl ⟨by rfl, ?_⟩) (by assumption) ?_
          rotate_left
          · intro w hSw; ((try dsimp only at hSw); go_simp; (try with_reducible rfl))
          simp only [Act.put, List.setIfInBounds_toArray, List.set_cons_zero, List.set_cons_succ]
          refine wpAnyN_tk (i := 2) (v := ?_) rfl (by kernel_rfl) (fun _ _ _ h => h) (Or.inl ⟨by rfl, ?_⟩) (by assumption) ?_
          rotate_left
          · intro w hSw; ((try dsimp only at hSw); go_simp; (try with_reducible rfl))
          simp only [Act.put, List.setIfInBounds_toArray, List.set_cons_zero, List.set_cons_succ]
          refine wpAnyN_tk (i := 3) (v := ?_) rfl (by kernel_rfl) (fun _ _ _ h => h) (Or.inl ⟨by rfl, ?_⟩) (by assumption) ?_
          rotate_left
          · intro w hSw; ((try dsimp only at hSw); go_simp; (try with_reducible rfl))
          simp only [Act.put, List.setIfInBounds_toArray, List.set_cons_zero, List.set_cons_succ]
          refine wpAnyN_tk (i := 4) (v := ?_) rfl (by kernel_rfl) (fun _ _ _ h => h) (Or.inl ⟨by rfl, ?_⟩) (by assumption) ?_
          rotate_left
          · intro w hSw; ((try dsimp only at hSw); go_simp; (try with_reducible rfl))
          simp only [Act.put, List.setIfInBounds_toArray, List.set_cons_zero, List.set_cons_succ]
          refine wpAnyN_tk (i := 5) (v := ?_) rfl (by kernel_rfl) (fun _ _ _ h => h) (Or.inl ⟨by rfl, ?_⟩) (by assumption) ?_
          rotate_left
          · intro w hSw; ((try dsimp only at hSw); go_simp; (try with_reducible rfl))
          simp only [Act.put, List.setIfInBounds_toArray, List.set_cons_zero, List.set_cons_succ]
          refine wpAnyN_tk (i := 6) (v := .bool true) rfl (by kernel_rfl) (fun _ _ _ h => h) (Or.inl ⟨by rfl, fun w hSw => by (try dsimp only at hSw); go_simp; all_goals omega⟩) (by assumption) ?_
          simp only [Act.put, List.setIfInBounds_toArray, List.set_cons_zero, List.set_cons_succ]
          refine wpAnyN_tk (i := 7) (v := ?_) rfl (by kernel_rfl) (fun _ _ _ h => h) (Or.inl ⟨by rfl, ?_⟩) (by assumption) ?_
          rotate_left
          · intro w hSw; ((try dsimp only at hSw); go_simp; (try with_reducible rfl))
          simp only [Act.put, List.setIfInBounds_toArray, List.set_cons_zero, List.set_cons_succ]
          refine wpAnyN_tk (i := 8) (v := ?_) rfl (by kernel_rfl) (fun _ _ _ h => h) (Or.inl ⟨by rfl, ?_⟩) (by assumption) ?_
          rotate_left
          · intro w hSw; ((try dsimp only at hSw); go_simp; (try with_reducible rfl))
          simp only [Act.put, List.setIfInBounds_toArray, List.set_cons_zero, List.set_cons_succ]
          refine wpAnyN_tk (i := 9) (v := ?_) rfl (by kernel_rfl) (fun _ _ _ h => h) (Or.inl ⟨by rfl, ?_⟩) (by assumption) ?_
          rotate_left
          · intro w hSw; ((try dsimp only at hSw); go_simp; (try with_reducible rfl))
          simp only [Act.put, List.setIfInBounds_toArray, List.set_cons_zero, List.set_cons_succ]
          refine wpAnyN_tk (i := 10) (v := ?_) rfl (by kernel_rfl) (fun _ _ _ h => h) (Or.inl ⟨by rfl, ?_⟩) (by assumption) ?_
          rotate_left
          · intro w hSw; ((try dsimp only at hSw); go_simp; (try with_reducible rfl))
          simp only [Act.put, List.setIfInBounds_toArray, List.set_cons_zero, List.set_cons_succ]
          refine wpAnyN_tk (i := 11) (v := ?_) rfl (by kernel_rfl) (fun _ _ _ h => h) (Or.inl ⟨by rfl, ?_⟩) (by assumption) ?_
          rotate_left
          · intro w hSw; ((try dsimp only at hSw); go_simp; (try with_reducible rfl))
          simp only [Act.put, List.setIfInBounds_toArray, List.set_cons_zero, List.set_cons_succ]
          refine wpAnyN_tk (i := 12) (v := ?_) rfl (by kernel_rfl) (fun _ _ _ h => h) (Or.inl ⟨by rfl, ?_⟩) (by assumption) ?_
          rotate_left
          · intro w hSw; ((try dsimp only at hSw); go_simp; (try with_reducible rfl))
          simp only [Act.put, List.setIfInBounds_toArray, List.set_cons_zero, List.set_cons_succ]
          refine wpAnyN_tk (i := 13) (v := ?_) rfl (by kernel_rfl) (fun _ _ _ h => h) (Or.inl ⟨by rfl, ?_⟩) (by assumption) ?_
          rotate_left
          · intro w hSw; ((try dsimp only at hSw); go_simp; (try with_reducible rfl))
          simp only [Act.put, List.setIfInBounds_toArray, List.set_cons_zero, List.set_cons_succ]
          refine wpAnyN_tk (i := 14) (v := .bool true) rfl (by kernel_rfl) (fun _ _ _ h => h) (Or.inl ⟨by rfl, fun w hSw => by (try dsimp only at hSw); go_simp; all_goals omega⟩) (by assumption) ?_
          simp only [Act.put, List.setIfInBounds_toArray, List.set_cons_zero, List.set_cons_succ]
          refine wpAnyN_tk (i := 15) (v := .bool true) rfl (by kernel_rfl) (fun _ _ _ h => h) (Or.inl ⟨by rfl, fun w hSw => by (try dsimp only at hSw); go_simp⟩) (by assumption) ?_
          simp only [Act.put, List.setIfInBounds_toArray, List.set_cons_zero, List.set_cons_succ]
          refine wpAnyN_tk (i := 16) (v := ?_) rfl (by kernel_rfl) (fun _ _ _ h => h) (Or.inl ⟨by rfl, ?_⟩) (by assumption) ?_
          rotate_left
          · intro w hSw; ((try dsimp only at hSw); go_simp; (try with_reducible rfl))
          simp only [Act.put, List.setIfInBounds_toArray, List.set_cons_zero, List.set_cons_succ]
          refine wpAnyN_tk (i := 17) (v := ?_) rfl (by kernel_rfl) (fun _ _ _ h => h) (Or.inl ⟨by rfl, ?_⟩) (by assumption) ?_
          rotate_left
          · intro w hSw; ((try dsimp only at hSw); go_simp; (try with_reducible rfl))
          simp only [Act.put, List.setIfInBounds_toArray, List.set_cons_zero, List.set_cons_succ]
          refine wpAnyN_tk (i := 18) (v := .bool true) rfl (by kernel_rfl) (fun _ _ _ h => h) (Or.inl ⟨by rfl, fun w hSw => by (try dsimp only at hSw); go_simp; all_goals omega⟩) (by assumption) ?_
          simp only [Act.put, List.setIfInBounds_toArray, List.set_cons_zero, List.set_cons_succ]
          refine wpAnyN_tk (i := 19) (v := .bool true) rfl (by kernel_rfl) (fun _ _ _ h => h) (Or.inl ⟨by rfl, fun w hSw => by (try dsimp only at hSw); go_simp⟩) (by assumption) ?_
          simp only [Act.put, List.setIfInBounds_toArray, List.set_cons_zero, List.set_cons_succ]
          refine wpAnyN_tk (i := 20) (v := ?_) rfl (by kernel_rfl) (fun _ _ _ h => h) (Or.inl ⟨by rfl, ?_⟩) (by assumption) ?_
          rotate_left
          · intro w hSw; ((try dsimp only at hSw); go_simp; (try with_reducible rfl))
          simp only [Act.put, List.setIfInBounds_toArray, List.set_cons_zero, List.set_cons_succ]
          refine wpAnyN_tk (i := 21) (v := ?_) rfl (by kernel_rfl) (fun _ _ _ h => h) (Or.inl ⟨by rfl, ?_⟩) (by assumption) ?_
          rotate_left
          · intro w hSw; ((try dsimp only at hSw); go_simp; (try with_reducible rfl))
          simp only [Act.put, List.setIfInBounds_toArray, List.set_cons_zero, List.set_cons_succ]
          refine wpAnyN_tk (i := 22) (v := ?_) rfl (by kernel_rfl) (fun _ _ _ h => h) (Or.inl ⟨by rfl, ?_⟩) (by assumption) ?_
          rotate_left
          · intro w hSw; ((try dsimp only at hSw); go_simp; (try with_reducible rfl))
          simp only [Act.put, List.setIfInBounds_toArray, List.set_cons_zero, List.set_cons_succ]
          refine wpAnyN_tk (i := 23) (v := .bool false) rfl (by kernel_rfl) (fun _ _ _ h => h) (Or.inl ⟨by rfl, fun w hSw => by (try dsimp only at hSw); go_simp; all_goals omega⟩) (by assumption) ?_
          simp only [Act.put, List.setIfInBounds_toArray, List.set_cons_zero, List.set_cons_succ]
          refine wpAnyN_tk (i := 24) (v := .bool false) rfl (by kernel_rfl) (fun _ _ _ h => h) (Or.inl ⟨by rfl, fun w hSw => by (try dsimp only at hSw); go_simp; all_goals omega⟩) (by assumption) ?_
          simp only [Act.put, List.setIfInBounds_toArray, List.set_cons_zero, List.set_cons_succ]
          refine wpAnyN_tk (i := 25) (v := ?_) rfl (by kernel_rfl) (fun _ _ _ h => h) (Or.inl ⟨by rfl, ?_⟩) (by assumption) ?_
          rotate_left
          · intro w hSw; ((try dsimp only at hSw); go_simp; (try with_reducible rfl))
          simp only [Act.put, List.setIfInBounds_toArray, List.set_cons_zero, List.set_cons_succ]
          refine wpAnyN_tk (i := 26) (v := undef) rfl (by kernel_rfl) (fun _ _ _ h => h) (Or.inr ⟨by rfl, rfl⟩) (by assumption) ?_
          simp only [Act.put, List.setIfInBounds_toArray, List.set_cons_zero, List.set_cons_succ]
          refine wpAnyN_tk (i := 27) (v := undef) rfl (by kernel_rfl) (fun _ _ _ h => h) (Or.inr ⟨by rfl, rfl⟩) (by assumption) ?_
          simp only [Act.put, List.setIfInBounds_toArray, List.set_cons_zero, List.set_cons_succ]
          refine wpAnyN_tk (i := 28) (v := undef) rfl (by kernel_rfl) (fun _ _ _ h => h) (Or.inr ⟨by rfl, rfl⟩) (by assumption) ?_
          simp only [Act.put, List.setIfInBounds_toArray, List.set_cons_zero, List.set_cons_succ]
          refine wpAnyN_tk (i := 29) (v := .bool false) rfl (by kernel_rfl) (fun _ _ _ h => h) (Or.inl ⟨by rfl, fun w hSw => by (try dsimp only at hSw); go_simp; all_goals omega⟩) (by assumption) ?_
          simp only [Act.put, List.setIfInBounds_toArray, List.set_cons_zero, List.set_cons_succ]
          refine wpAnyN_tk (i := 30) (v := ?_) rfl (by kernel_rfl) (fun _ _ _ h => h) (Or.inl ⟨by rfl, ?_⟩) (by assumption) ?_
          rotate_left
          · intro w hSw; ((try dsimp only at hSw); go_simp; (try with_reducible rfl))
          simp only [Act.put, List.setIfInBounds_toArray, List.set_cons_zero, List.set_cons_succ]
          refine wpAnyN_done (by kernel_rfl) ?_ _
          go_wp2_with fail
          go_ret
          exact ⟨_, o, rfl, hst.out, by rw [hfin.out]; rfl⟩
      · have h2I : ¬ (E : Int) ≤ 281474976710656 := by omega
        have hfin := hidden (show (decide (P ≤ E) && decide (C < E) && decide (E ≤ 281474976710656) && decide (N ≤ 256) && r) = false by simp [h0, h1, h2])
        clear h0 h1 h2
        go_enter Try.func106, Try.ntmps106
        go_wp2_with fail
        refine wp_region_need (fun w' => w'.cell? ⟨eb, 0, none⟩ = some (.int .u64 (E : Int)) ∧ w'.cell? ⟨sb, 0, none⟩ = some (.pointer (some ⟨ps, 0, none⟩)) ∧ w'.cell? ⟨lb, 0, none⟩ = some (.slice la N lc) ∧ w'.cell? ⟨ps, 6, none⟩ = some (.int .u64 (P : Int)) ∧ w'.cell? ⟨ps, 7, none⟩ = some (.int .u64 (C : Int))) (fun _ => true) (by kernel_rfl) hS.out (fun hHeld => ?_)
        refine wpAnyN_tk (i := 0) (v := ?_) rfl (by kernel_rfl) (fun _ _ _ h => h) (Or.inl ⟨by rfl, ?_⟩) (by assumption) ?_
        rotate_left
        · intro w hSw; ((try dsimp only at hSw); go_simp; (try with_reducible rfl))
        simp only [Act.put, List.setIfInBounds_toArray, List.set_cons_zero, List.set_cons_succ]
        refine wpAnyN_tk (i := 1) (v := ?_) rfl (by kernel_rfl) (fun _ _ _ h => h) (Or.inl ⟨by rfl, ?_⟩) (by assumption) ?_
        rotate_left
        · intro w hSw; ((try dsimp only at hSw); go_simp; (try with_reducible rfl))
        simp only [Act.put, List.setIfInBounds_toArray, List.set_cons_zero, List.set_cons_succ]
        refine wpAnyN_tk (i := 2) (v := ?_) rfl (by kernel_rfl) (fun _ _ _ h => h) (Or.inl ⟨by rfl, ?_⟩) (by assumption) ?_
        rotate_left
        · intro w hSw; ((try dsimp only at hSw); go_simp; (try with_reducible rfl))
        simp only [Act.put, List.setIfInBounds_toArray, List.set_cons_zero, List.set_cons_succ]
        refine wpAnyN_tk (i := 3) (v := ?_) rfl (by kernel_rfl) (fun _ _ _ h => h) (Or.inl ⟨by rfl, ?_⟩) (by assumption) ?_
        rotate_left
        · intro w hSw; ((try dsimp only at hSw); go_simp; (try with_reducible rfl))
        simp only [Act.put, List.setIfInBounds_toArray, List.set_cons_zero, List.set_cons_succ]
        refine wpAnyN_tk (i := 4) (v := ?_) rfl (by kernel_rfl) (fun _ _ _ h => h) (Or.inl ⟨by rfl, ?_⟩) (by assumption) ?_
        rotate_left
        · intro w hSw; ((try dsimp only at hSw); go_simp; (try with_reducible rfl))
        simp only [Act.put, List.setIfInBounds_toArray, List.set_cons_zero, List.set_cons_succ]
        refine wpAnyN_tk (i := 5) (v := ?_) rfl (by kernel_rfl) (fun _ _ _ h => h) (Or.inl ⟨by rfl, ?_⟩) (by assumption) ?_
        rotate_left
        · intro w hSw; ((try dsimp only at hSw); go_simp; (try with_reducible rfl))
        simp only [Act.put, List.setIfInBounds_toArray, List.set_cons_zero, List.set_cons_succ]
        refine wpAnyN_tk (i := 6) (v := .bool true) rfl (by kernel_rfl) (fun _ _ _ h => h) (Or.inl ⟨by rfl, fun w hSw => by (try dsimp only at hSw); go_simp; all_goals omega⟩) (by assumption) ?_
        simp only [Act.put, List.setIfInBounds_toArray, List.set_cons_zero, List.set_cons_succ]
        refine wpAnyN_tk (i := 7) (v := ?_) rfl (by kernel_rfl) (fun _ _ _ h => h) (Or.inl ⟨by rfl, ?_⟩) (by assumption) ?_
        rotate_left
        · intro w hSw; ((try dsimp only at hSw); go_simp; (try with_reducible rfl))
        simp only [Act.put, List.setIfInBounds_toArray, List.set_cons_zero, List.set_cons_succ]
        refine wpAnyN_tk (i := 8) (v := ?_) rfl (by kernel_rfl) (fun _ _ _ h => h) (Or.inl ⟨by rfl, ?_⟩) (by assumption) ?_
        rotate_left
        · intro w hSw; ((try dsimp only at hSw); go_simp; (try with_reducible rfl))
        simp only [Act.put, List.setIfInBounds_toArray, List.set_cons_zero, List.set_cons_succ]
        refine wpAnyN_tk (i := 9) (v := ?_) rfl (by kernel_rfl) (fun _ _ _ h => h) (Or.inl ⟨by rfl, ?_⟩) (by assumption) ?_
        rotate_left
        · intro w hSw; ((try dsimp only at hSw); go_simp; (try with_reducible rfl))
        simp only [Act.put, List.setIfInBounds_toArray, List.set_cons_zero, List.set_cons_succ]
        refine wpAnyN_tk (i := 10) (v := ?_) rfl (by kernel_rfl) (fun _ _ _ h => h) (Or.inl ⟨by rfl, ?_⟩) (by assumption) ?_
        rotate_left
        · intro w hSw; ((try dsimp only at hSw); go_simp; (try with_reducible rfl))
        simp only [Act.put, List.setIfInBounds_toArray, List.set_cons_zero, List.set_cons_succ]
        refine wpAnyN_tk (i := 11) (v := ?_) rfl (by kernel_rfl) (fun _ _ _ h => h) (Or.inl ⟨by rfl, ?_⟩) (by assumption) ?_
        rotate_left
        · intro w hSw; ((try dsimp only at hSw); go_simp; (try with_reducible rfl))
        simp only [Act.put, List.setIfInBounds_toArray, List.set_cons_zero, List.set_cons_succ]
        refine wpAnyN_tk (i := 12) (v := ?_) rfl (by kernel_rfl) (fun _ _ _ h => h) (Or.inl ⟨by rfl, ?_⟩) (by assumption) ?_
        rotate_left
        · intro w hSw; ((try dsimp only at hSw); go_simp; (try with_reducible rfl))
        simp only [Act.put, List.setIfInBounds_toArray, List.set_cons_zero, List.set_cons_succ]
        refine wpAnyN_tk (i := 13) (v := ?_) rfl (by kernel_rfl) (fun _ _ _ h => h) (Or.inl ⟨by rfl, ?_⟩) (by assumption) ?_
        rotate_left
        · intro w hSw; ((try dsimp only at hSw); go_simp; (try with_reducible rfl))
        simp only [Act.put, List.setIfInBounds_toArray, List.set_cons_zero, List.set_cons_succ]
        refine wpAnyN_tk (i := 14) (v := .bool true) rfl (by kernel_rfl) (fun _ _ _ h => h) (Or.inl ⟨by rfl, fun w hSw => by (try dsimp only at hSw); go_simp; all_goals omega⟩) (by assumption) ?_
        simp only [Act.put, List.setIfInBounds_toArray, List.set_cons_zero, List.set_cons_succ]
        refine wpAnyN_tk (i := 15) (v := .bool true) rfl (by kernel_rfl) (fun _ _ _ h => h) (Or.inl ⟨by rfl, fun w hSw => by (try dsimp only at hSw); go_simp⟩) (by assumption) ?_
        simp only [Act.put, List.setIfInBounds_toArray, List.set_cons_zero, List.set_cons_succ]
        refine wpAnyN_tk (i := 16) (v := ?_) rfl (by kernel_rfl) (fun _ _ _ h => h) (Or.inl ⟨by rfl, ?_⟩) (by assumption) ?_
        rotate_left
        · intro w hSw; ((try dsimp only at hSw); go_simp; (try with_reducible rfl))
        simp only [Act.put, List.setIfInBounds_toArray, List.set_cons_zero, List.set_cons_succ]
        refine wpAnyN_tk (i := 17) (v := ?_) rfl (by kernel_rfl) (fun _ _ _ h => h) (Or.inl ⟨by rfl, ?_⟩) (by assumption) ?_
        rotate_left
        · intro w hSw; ((try dsimp only at hSw); go_simp; (try with_reducible rfl))
        simp only [Act.put, List.setIfInBounds_toArray, List.set_cons_zero, List.set_cons_succ]
        refine wpAnyN_tk (i := 18) (v := .bool false) rfl (by kernel_rfl) (fun _ _ _ h => h) (Or.inl ⟨by rfl, fun w hSw => by (try dsimp only at hSw); go_simp; all_goals omega⟩) (by assumption) ?_
        simp only [Act.put, List.setIfInBounds_toArray, List.set_cons_zero, List.set_cons_succ]
        refine wpAnyN_tk (i := 19) (v := .bool false) rfl (by kernel_rfl) (fun _ _ _ h => h) (Or.inl ⟨by rfl, fun w hSw => by (try dsimp only at hSw); go_simp; all_goals omega⟩) (by assumption) ?_
        simp only [Act.put, List.setIfInBounds_toArray, List.set_cons_zero, List.set_cons_succ]
        refine wpAnyN_tk (i := 20) (v := ?_) rfl (by kernel_rfl) (fun _ _ _ h => h) (Or.inl ⟨by rfl, ?_⟩) (by assumption) ?_
        rotate_left
        · intro w hSw; ((try dsimp only at hSw); go_simp; (try with_reducible rfl))
        simp only [Act.put, List.setIfInBounds_toArray, List.set_cons_zero, List.set_cons_succ]
        refine wpAnyN_tk (i := 21) (v := undef) rfl (by kernel_rfl) (fun _ _ _ h => h) (Or.inr ⟨by rfl, rfl⟩) (by assumption) ?_
        simp only [Act.put, List.setIfInBounds_toArray, List.set_cons_zero, List.set_cons_succ]
        refine wpAnyN_tk (i := 22) (v := undef) rfl (by kernel_rfl) (fun _ _ _ h => h) (Or.inr ⟨by rfl, rfl⟩) (by assumption) ?_
        simp only [Act.put, List.setIfInBounds_toArray, List.set_cons_zero, List.set_cons_succ]
        refine wpAnyN_tk (i := 23) (v := undef) rfl (by kernel_rfl) (fun _ _ _ h => h) (Or.inr ⟨by rfl, rfl⟩) (by assumption) ?_
        simp only [Act.put, List.setIfInBounds_toArray, List.set_cons_zero, List.set_cons_succ]
        refine wpAnyN_tk (i := 24) (v := .bool false) rfl (by kernel_rfl) (fun _ _ _ h => h) (Or.inl ⟨by rfl, fun w hSw => by (try dsimp only at hSw); go_simp; all_goals omega⟩) (by assumption) ?_
        simp only [Act.put, List.setIfInBounds_toArray, List.set_cons_zero, List.set_cons_succ]
        refine wpAnyN_tk (i := 25) (v := ?_) rfl (by kernel_rfl) (fun _ _ _ h => h) (Or.inl ⟨by rfl, ?_⟩) (by assumption) ?_
        rotate_left
        · intro w hSw; ((try dsimp only at hSw); go_simp; (try with_reducible rfl))
        simp only [Act.put, List.setIfInBounds_toArray, List.set_cons_zero, List.set_cons_succ]
        refine wpAnyN_tk (i := 26) (v := undef) rfl (by kernel_rfl) (fun _ _ _ h => h) (Or.inr ⟨by rfl, rfl⟩) (by assumption) ?_
        simp only [Act.put, List.setIfInBounds_toArray, List.set_cons_zero, List.set_cons_succ]
        refine wpAnyN_tk (i := 27) (v := undef) rfl (by kernel_rfl) (fun _ _ _ h => h) (Or.inr ⟨by rfl, rfl⟩) (by assumption) ?_
        simp only [Act.put, List.setIfInBounds_toArray, List.set_cons_zero, List.set_cons_succ]
        refine wpAnyN_tk (i := 28) (v := undef) rfl (by kernel_rfl) (fun _ _ _ h => h) (Or.inr ⟨by rfl, rfl⟩) (by assumption) ?_
        simp only [Act.put, List.setIfInBounds_toArray, List.set_cons_zero, List.set_cons_succ]
        refine wpAnyN_tk (i := 29) (v := .bool false) rfl (by kernel_rfl) (fun _ _ _ h => h) (Or.inl ⟨by rfl, fun w hSw => by (try dsimp only at hSw); go_simp; all_goals omega⟩) (by assumption) ?_
        simp only [Act.put, List.setIfInBounds_toArray, List.set_cons_zero, List.set_cons_succ]
        refine wpAnyN_tk (i := 30) (v := ?_) rfl (by kernel_rfl) (fun _ _ _ h => h) (Or.inl ⟨by rfl, ?_⟩) (by assumption) ?_
        rotate_left
        · intro w hSw; ((try dsimp only at hSw); go_simp; (try with_reducible rfl))
        simp only [Act.put, List.setIfInBounds_toArray, List.set_cons_zero, List.set_cons_succ]
        refine wpAnyN_done (by kernel_rfl) ?_ _
        go_wp2_with fail
        go_ret
        exact ⟨_, o, rfl, hst.out, by rw [hfin.out]; rfl⟩
    · have h1I : ¬ (C : Int) < (E : Int) := by omega
      have hfin := hidden (show (decide (P ≤ E) && decide (C < E) && decide (E ≤ 281474976710656) && decide (N ≤ 256) && r) = false by simp [h0, h1])
      clear h0 h1
      go_enter Try.func106, Try.ntmps106
      go_wp2_with fail
      refine wp_region_need (fun w' => w'.cell? ⟨eb, 0, none⟩ = some (.int .u64 (E : Int)) ∧ w'.cell? ⟨sb, 0, none⟩ = some (.pointer (some ⟨ps, 0, none⟩)) ∧ w'.cell? ⟨lb, 0, none⟩ = some (.slice la N lc) ∧ w'.cell? ⟨ps, 6, none⟩ = some (.int .u64 (P : Int)) ∧ w'.cell? ⟨ps, 7, none⟩ = some (.int .u64 (C : Int))) (fun _ => true) (by kernel_rfl) hS.out (fun hHeld => ?_)
      refine wpAnyN_tk (i := 0) (v := ?_) rfl (by kernel_rfl) (fun _ _ _ h => h) (Or.inl ⟨by rfl, ?_⟩) (by assumption) ?_
      rotate_left
      · intro w hSw; ((try dsimp only at hSw); go_simp; (try with_reducible rfl))
      simp only [Act.put, List.setIfInBounds_toArray, List.set_cons_zero, List.set_cons_succ]
      refine wpAnyN_tk (i := 1) (v := ?_) rfl (by kernel_rfl) (fun _ _ _ h => h) (Or.inl ⟨by rfl, ?_⟩) (by assumption) ?_
      rotate_left
      · intro w hSw; ((try dsimp only at hSw); go_simp; (try with_reducible rfl))
      simp only [Act.put, List.setIfInBounds_toArray, List.set_cons_zero, List.set_cons_succ]
      refine wpAnyN_tk (i := 2) (v := ?_) rfl (by kernel_rfl) (fun _ _ _ h => h) (Or.inl ⟨by rfl, ?_⟩) (by assumption) ?_
      rotate_left
      · intro w hSw; ((try dsimp only at hSw); go_simp; (try with_reducible rfl))
      simp only [Act.put, List.setIfInBounds_toArray, List.set_cons_zero, List.set_cons_succ]
      refine wpAnyN_tk (i := 3) (v := ?_) rfl (by kernel_rfl) (fun _ _ _ h => h) (Or.inl ⟨by rfl, ?_⟩) (by assumption) ?_
      rotate_left
      · intro w hSw; ((try dsimp only at hSw); go_simp; (try with_reducible rfl))
      simp only [Act.put, List.setIfInBounds_toArray, List.set_cons_zero, List.set_cons_succ]
      refine wpAnyN_tk (i := 4) (v := ?_) rfl (by kernel_rfl) (fun _ _ _ h => h) (Or.inl ⟨by rfl, ?_⟩) (by assumption) ?_
      rotate_left
      · intro w hSw; ((try dsimp only at hSw); go_simp; (try with_reducible rfl))
      simp only [Act.put, List.setIfInBounds_toArray, List.set_cons_zero, List.set_cons_succ]
      refine wpAnyN_tk (i := 5) (v := ?_) rfl (by kernel_rfl) (fun _ _ _ h => h) (Or.inl ⟨by rfl, ?_⟩) (by assumption) ?_
      rotate_left
      · intro w hSw; ((try dsimp only at hSw); go_simp; (try with_reducible rfl))
      simp only [Act.put, List.setIfInBounds_toArray, List.set_cons_zero, List.set_cons_succ]
      refine wpAnyN_tk (i := 6) (v := .bool true) rfl (by kernel_rfl) (fun _ _ _ h => h) (Or.inl ⟨by rfl, fun w hSw => by (try dsimp only at hSw); go_simp; all_goals omega⟩) (by assumption) ?_
      simp only [Act.put, List.setIfInBounds_toArray, List.set_cons_zero, List.set_cons_succ]
      refine wpAnyN_tk (i := 7) (v := ?_) rfl (by kernel_rfl) (fun _ _ _ h => h) (Or.inl ⟨by rfl, ?_⟩) (by assumption) ?_
      rotate_left
      · intro w hSw; ((try dsimp only at hSw); go_simp; (try with_reducible rfl))
      simp only [Act.put, List.setIfInBounds_toArray, List.set_cons_zero, List.set_cons_succ]
      refine wpAnyN_tk (i := 8) (v := ?_) rfl (by kernel_rfl) (fun _ _ _ h => h) (Or.inl ⟨by rfl, ?_⟩) (by assumption) ?_
      rotate_left
      · intro w hSw; ((try dsimp only at hSw); go_simp; (try with_reducible rfl))
      simp only [Act.put, List.setIfInBounds_toArray, List.set_cons_zero, List.set_cons_succ]
      refine wpAnyN_tk (i := 9) (v := ?_) rfl (by kernel_rfl) (fun _ _ _ h => h) (Or.inl ⟨by rfl, ?_⟩) (by assumption) ?_
      rotate_left
      · intro w hSw; ((try dsimp only at hSw); go_simp; (try with_reducible rfl))
      simp only [Act.put, List.setIfInBounds_toArray, List.set_cons_zero, List.set_cons_succ]
      refine wpAnyN_tk (i := 10) (v := ?_) rfl (by kernel_rfl) (fun _ _ _ h => h) (Or.inl ⟨by rfl, ?_⟩) (by assumption) ?_
      rotate_left
      · intro w hSw; ((try dsimp only at hSw); go_simp; (try with_reducible rfl))
      simp only [Act.put, List.setIfInBounds_toArray, List.set_cons_zero, List.set_cons_succ]
      refine wpAnyN_tk (i := 11) (v := ?_) rfl (by kernel_rfl) (fun _ _ _ h => h) (Or.inl ⟨by rfl, ?_⟩) (by assumption) ?_
      rotate_left
      · intro w hSw; ((try dsimp only at hSw); go_simp; (try with_reducible rfl))
      simp only [Act.put, List.setIfInBounds_toArray, List.set_cons_zero, List.set_cons_succ]
      refine wpAnyN_tk (i := 12) (v := ?_) rfl (by kernel_rfl) (fun _ _ _ h => h) (Or.inl ⟨by rfl, ?_⟩) (by assumption) ?_
      rotate_left
      · intro w hSw; ((try dsimp only at hSw); go_simp; (try with_reducible rfl))
      simp only [Act.put, List.setIfInBounds_toArray, List.set_cons_zero, List.set_cons_succ]
      refine wpAnyN_tk (i := 13) (v := ?_) rfl (by kernel_rfl) (fun _ _ _ h => h) (Or.inl ⟨by rfl, ?_⟩) (by assumption) ?_
      rotate_left
      · intro w hSw; ((try dsimp only at hSw); go_simp; (try with_reducible rfl))
      simp only [Act.put, List.setIfInBounds_toArray, List.set_cons_zero, List.set_cons_succ]
      refine wpAnyN_tk (i := 14) (v := .bool false) rfl (by kernel_rfl) (fun _ _ _ h => h) (Or.inl ⟨by rfl, fun w hSw => by (try dsimp only at hSw); go_simp; all_goals omega⟩) (by assumption) ?_
      simp only [Act.put, List.setIfInBounds_toArray, List.set_cons_zero, List.set_cons_succ]
      refine wpAnyN_tk (i := 15) (v := .bool false) rfl (by kernel_rfl) (fun _ _ _ h => h) (Or.inl ⟨by rfl, fun w hSw => by (try dsimp only at hSw); go_simp; all_goals omega⟩) (by assumption) ?_
      simp only [Act.put, List.setIfInBounds_toArray, List.set_cons_zero, List.set_cons_succ]
      refine wpAnyN_tk (i := 16) (v := ?_) rfl (by kernel_rfl) (fun _ _ _ h => h) (Or.inl ⟨by rfl, ?_⟩) (by assumption) ?_
      rotate_left
      · intro w hSw; ((try dsimp only at hSw); go_simp; (try with_reducible rfl))
      simp only [Act.put, List.setIfInBounds_toArray, List.set_cons_zero, List.set_cons_succ]
      refine wpAnyN_tk (i := 17) (v := undef) rfl (by kernel_rfl) (fun _ _ _ h => h) (Or.inr ⟨by rfl, rfl⟩) (by assumption) ?_
      simp only [Act.put, List.setIfInBounds_toArray, List.set_cons_zero, List.set_cons_succ]
      refine wpAnyN_tk (i := 18) (v := undef) rfl (by kernel_rfl) (fun _ _ _ h => h) (Or.inr ⟨by rfl, rfl⟩) (by assumption) ?_
      simp only [Act.put, List.setIfInBounds_toArray, List.set_cons_zero, List.set_cons_succ]
      refine wpAnyN_tk (i := 19) (v := .bool false) rfl (by kernel_rfl) (fun _ _ _ h => h) (Or.inl ⟨by rfl, fun w hSw => by (try dsimp only at hSw); go_simp; all_goals omega⟩) (by assumption) ?_
      simp only [Act.put, List.setIfInBounds_toArray, List.set_cons_zero, List.set_cons_succ]
      refine wpAnyN_tk (i := 20) (v := ?_) rfl (by kernel_rfl) (fun _ _ _ h => h) (Or.inl ⟨by rfl, ?_⟩) (by assumption) ?_
      rotate_left
      · intro w hSw; ((try dsimp only at hSw); go_simp; (try with_reducible rfl))
      simp only [Act.put, List.setIfInBounds_toArray, List.set_cons_zero, List.set_cons_succ]
      refine wpAnyN_tk (i := 21) (v := undef) rfl (by kernel_rfl) (fun _ _ _ h => h) (Or.inr ⟨by rfl, rfl⟩) (by assumption) ?_
      simp only [Act.put, List.setIfInBounds_toArray, List.set_cons_zero, List.set_cons_succ]
      refine wpAnyN_tk (i := 22) (v := undef) rfl (by kernel_rfl) (fun _ _ _ h => h) (Or.inr ⟨by rfl, rfl⟩) (by assumption) ?_
      simp only [Act.put, List.setIfInBounds_toArray, List.set_cons_zero, List.set_cons_succ]
      refine wpAnyN_tk (i := 23) (v := undef) rfl (by kernel_rfl) (fun _ _ _ h => h) (Or.inr ⟨by rfl, rfl⟩) (by assumption) ?_
      simp only [Act.put, List.setIfInBounds_toArray, List.set_cons_zero, List.set_cons_succ]
      refine wpAnyN_tk (i := 24) (v := .bool false) rfl (by kernel_rfl) (fun _ _ _ h => h) (Or.inl ⟨by rfl, fun w hSw => by (try dsimp only at hSw); go_simp; all_goals omega⟩) (by assumption) ?_
      simp only [Act.put, List.setIfInBounds_toArray, List.set_cons_zero, List.set_cons_succ]
      refine wpAnyN_tk (i := 25) (v := ?_) rfl (by kernel_rfl) (fun _ _ _ h => h) (Or.inl ⟨by rfl, ?_⟩) (by assumption) ?_
      rotate_left
      · intro w hSw; ((try dsimp only at hSw); go_simp; (try with_reducible rfl))
      simp only [Act.put, List.setIfInBounds_toArray, List.set_cons_zero, List.set_cons_succ]
      refine wpAnyN_tk (i := 26) (v := undef) rfl (by kernel_rfl) (fun _ _ _ h => h) (Or.inr ⟨by rfl, rfl⟩) (by assumption) ?_
      simp only [Act.put, List.setIfInBounds_toArray, List.set_cons_zero, List.set_cons_succ]
      refine wpAnyN_tk (i := 27) (v := undef) rfl (by kernel_rfl) (fun _ _ _ h => h) (Or.inr ⟨by rfl, rfl⟩) (by assumption) ?_
      simp only [Act.put, List.setIfInBounds_toArray, List.set_cons_zero, List.set_cons_succ]
      refine wpAnyN_tk (i := 28) (v := undef) rfl (by kernel_rfl) (fun _ _ _ h => h) (Or.inr ⟨by rfl, rfl⟩) (by assumption) ?_
      simp only [Act.put, List.setIfInBounds_toArray, List.set_cons_zero, List.set_cons_succ]
      refine wpAnyN_tk (i := 29) (v := .bool false) rfl (by kernel_rfl) (fun _ _ _ h => h) (Or.inl ⟨by rfl, fun w hSw => by (try dsimp only at hSw); go_simp; all_goals omega⟩) (by assumption) ?_
      simp only [Act.put, List.setIfInBounds_toArray, List.set_cons_zero, List.set_cons_succ]
      refine wpAnyN_tk (i := 30) (v := ?_) rfl (by kernel_rfl) (fun _ _ _ h => h) (Or.inl ⟨by rfl, ?_⟩) (by assumption) ?_
      rotate_left
      · intro w hSw; ((try dsimp only at hSw); go_simp; (try with_reducible rfl))
      simp only [Act.put, List.setIfInBounds_toArray, List.set_cons_zero, List.set_cons_succ]
      refine wpAnyN_done (by kernel_rfl) ?_ _
      go_wp2_with fail
      go_ret
      exact ⟨_, o, rfl, hst.out, by rw [hfin.out]; rfl⟩
  · have h0I : ¬ (P : Int) ≤ (E : Int) := by omega
    have hfin := hidden (show (decide (P ≤ E) && decide (C < E) && decide (E ≤ 281474976710656) && decide (N ≤ 256) && r) = false by simp [h0])
    clear h0
    go_enter Try.func106, Try.ntmps106
    go_wp2_with fail
    refine wp_region_need (fun w' => w'.cell? ⟨eb, 0, none⟩ = some (.int .u64 (E : Int)) ∧ w'.cell? ⟨sb, 0, none⟩ = some (.pointer (some ⟨ps, 0, none⟩)) ∧ w'.cell? ⟨lb, 0, none⟩ = some (.slice la N lc) ∧ w'.cell? ⟨ps, 6, none⟩ = some (.int .u64 (P : Int)) ∧ w'.cell? ⟨ps, 7, none⟩ = some (.int .u64 (C : Int))) (fun _ => true) (by kernel_rfl) hS.out (fun hHeld => ?_)
    refine wpAnyN_tk (i := 0) (v := ?_) rfl (by kernel_rfl) (fun _ _ _ h => h) (Or.inl ⟨by rfl, ?_⟩) (by assumption) ?_
    rotate_left
    · intro w hSw; ((try dsimp only at hSw); go_simp; (try with_reducible rfl))
    simp only [Act.put, List.setIfInBounds_toArray, List.set_cons_zero, List.set_cons_succ]
    refine wpAnyN_tk (i := 1) (v := ?_) rfl (by kernel_rfl) (fun _ _ _ h => h) (Or.inl ⟨by rfl, ?_⟩) (by assumption) ?_
    rotate_left
    · intro w hSw; ((try dsimp only at hSw); go_simp; (try with_reducible rfl))
    simp only [Act.put, List.setIfInBounds_toArray, List.set_cons_zero, List.set_cons_succ]
    refine wpAnyN_tk (i := 2) (v := ?_) rfl (by kernel_rfl) (fun _ _ _ h => h) (Or.inl ⟨by rfl, ?_⟩) (by assumption) ?_
    rotate_left
    · intro w hSw; ((try dsimp only at hSw); go_simp; (try with_reducible rfl))
    simp only [Act.put, List.setIfInBounds_toArray, List.set_cons_zero, List.set_cons_succ]
    refine wpAnyN_tk (i := 3) (v := ?_) rfl (by kernel_rfl) (fun _ _ _ h => h) (Or.inl ⟨by rfl, ?_⟩) (by assumption) ?_
    rotate_left
    · intro w hSw; ((try dsimp only at hSw); go_simp; (try with_reducible rfl))
    simp only [Act.put, List.setIfInBounds_toArray, List.set_cons_zero, List.set_cons_succ]
    refine wpAnyN_tk (i := 4) (v := ?_) rfl (by kernel_rfl) (fun _ _ _ h => h) (Or.inl ⟨by rfl, ?_⟩) (by assumption) ?_
    rotate_left
    · intro w hSw; ((try dsimp only at hSw); go_simp; (try with_reducible rfl))
    simp only [Act.put, List.setIfInBounds_toArray, List.set_cons_zero, List.set_cons_succ]
    refine wpAnyN_tk (i := 5) (v := ?_) rfl (by kernel_rfl) (fun _ _ _ h => h) (Or.inl ⟨by rfl, ?_⟩) (by assumption) ?_
    rotate_left
    · intro w hSw; ((try dsimp only at hSw); go_simp; (try with_reducible rfl))
    simp only [Act.put, List.setIfInBounds_toArray, List.set_cons_zero, List.set_cons_succ]
    refine wpAnyN_tk (i := 6) (v := .bool false) rfl (by kernel_rfl) (fun _ _ _ h => h) (Or.inl ⟨by rfl, fun w hSw => by (try dsimp only at hSw); go_simp; all_goals omega⟩) (by assumption) ?_
    simp only [Act.put, List.setIfInBounds_toArray, List.set_cons_zero, List.set_cons_succ]
    refine wpAnyN_tk (i := 7) (v := ?_) rfl (by kernel_rfl) (fun _ _ _ h => h) (Or.inl ⟨by rfl, ?_⟩) (by assumption) ?_
    rotate_left
    · intro w hSw; ((try dsimp only at hSw); go_simp; (try with_reducible rfl))
    simp only [Act.put, List.setIfInBounds_toArray, List.set_cons_zero, List.set_cons_succ]
    refine wpAnyN_tk (i := 8) (v := undef) rfl (by kernel_rfl) (fun _ _ _ h => h) (Or.inr ⟨by rfl, rfl⟩) (by assumption) ?_
    simp only [Act.put, List.setIfInBounds_toArray, List.set_cons_zero, List.set_cons_succ]
    refine wpAnyN_tk (i := 9) (v := undef) rfl (by kernel_rfl) (fun _ _ _ h => h) (Or.inr ⟨by rfl, rfl⟩) (by assumption) ?_
    simp only [Act.put, List.setIfInBounds_toArray, List.set_cons_zero, List.set_cons_succ]
    refine wpAnyN_tk (i := 10) (v := undef) rfl (by kernel_rfl) (fun _ _ _ h => h) (Or.inr ⟨by rfl, rfl⟩) (by assumption) ?_
    simp only [Act.put, List.setIfInBounds_toArray, List.set_cons_zero, List.set_cons_succ]
    refine wpAnyN_tk (i := 11) (v := undef) rfl (by kernel_rfl) (fun _ _ _ h => h) (Or.inr ⟨by rfl, rfl⟩) (by assumption) ?_
    simp only [Act.put, List.setIfInBounds_toArray, List.set_cons_zero, List.set_cons_succ]
    refine wpAnyN_tk (i := 12) (v := undef) rfl (by kernel_rfl) (fun _ _ _ h => h) (Or.inr ⟨by rfl, rfl⟩) (by assumption) ?_
    simp only [Act.put, List.setIfInBounds_toArray, List.set_cons_zero, List.set_cons_succ]
    refine wpAnyN_tk (i := 13) (v := undef) rfl (by kernel_rfl) (fun _ _ _ h => h) (Or.inr ⟨by rfl, rfl⟩) (by assumption) ?_
    simp only [Act.put, List.setIfInBounds_toArray, List.set_cons_zero, List.set_cons_succ]
    refine wpAnyN_tk (i := 14) (v := undef) rfl (by kernel_rfl) (fun _ _ _ h => h) (Or.inr ⟨by rfl, rfl⟩) (by assumption) ?_
    simp only [Act.put, List.setIfInBounds_toArray, List.set_cons_zero, List.set_cons_succ]
    refine wpAnyN_tk (i := 15) (v := .bool false) rfl (by kernel_rfl) (fun _ _ _ h => h) (Or.inl ⟨by rfl, fun w hSw => by (try dsimp only at hSw); go_simp; all_goals omega⟩) (by assumption) ?_
    simp only [Act.put, List.setIfInBounds_toArray, List.set_cons_zero, List.set_cons_succ]
    refine wpAnyN_tk (i := 16) (v := ?_) rfl (by kernel_rfl) (fun _ _ _ h => h) (Or.inl ⟨by rfl, ?_⟩) (by assumption) ?_
    rotate_left
    · intro w hSw; ((try dsimp only at hSw); go_simp; (try with_reducible rfl))
    simp only [Act.put, List.setIfInBounds_toArray, List.set_cons_zero, List.set_cons_succ]
    refine wpAnyN_tk (i := 17) (v := undef) rfl (by kernel_rfl) (fun _ _ _ h => h) (Or.inr ⟨by rfl, rfl⟩) (by assumption) ?_
    simp only [Act.put, List.setIfInBounds_toArray, List.set_cons_zero, List.set_cons_succ]
    refine wpAnyN_tk (i := 18) (v := undef) rfl (by kernel_rfl) (fun _ _ _ h => h) (Or.inr ⟨by rfl, rfl⟩) (by assumption) ?_
    simp only [Act.put, List.setIfInBounds_toArray, List.set_cons_zero, List.set_cons_succ]
    refine wpAnyN_tk (i := 19) (v := .bool false) rfl (by kernel_rfl) (fun _ _ _ h => h) (Or.inl ⟨by rfl, fun w hSw => by (try dsimp only at hSw); go_simp; all_goals omega⟩) (by assumption) ?_
    simp only [Act.put, List.setIfInBounds_toArray, List.set_cons_zero, List.set_cons_succ]
    refine wpAnyN_tk (i := 20) (v := ?_) rfl (by kernel_rfl) (fun _ _ _ h => h) (Or.inl ⟨by rfl, ?_⟩) (by assumption) ?_
    rotate_left
    · intro w hSw; ((try dsimp only at hSw); go_simp; (try with_reducible rfl))
    simp only [Act.put, List.setIfInBounds_toArray, List.set_cons_zero, List.set_cons_succ]
    refine wpAnyN_tk (i := 21) (v := undef) rfl (by kernel_rfl) (fun _ _ _ h => h) (Or.inr ⟨by rfl, rfl⟩) (by assumption) ?_
    simp only [Act.put, List.setIfInBounds_toArray, List.set_cons_zero, List.set_cons_succ]
    refine wpAnyN_tk (i := 22) (v := undef) rfl (by kernel_rfl) (fun _ _ _ h => h) (Or.inr ⟨by rfl, rfl⟩) (by assumption) ?_
    simp only [Act.put, List.setIfInBounds_toArray, List.set_cons_zero, List.set_cons_succ]
    refine wpAnyN_tk (i := 23) (v := undef) rfl (by kernel_rfl) (fun _ _ _ h => h) (Or.inr ⟨by rfl, rfl⟩) (by assumption) ?_
    simp only [Act.put, List.setIfInBounds_toArray, List.set_cons_zero, List.set_cons_succ]
    refine wpAnyN_tk (i := 24) (v := .bool false) rfl (by kernel_rfl) (fun _ _ _ h => h) (Or.inl ⟨by rfl, fun w hSw => by (try dsimp only at hSw); go_simp; all_goals omega⟩) (by assumption) ?_
    simp only [Act.put, List.setIfInBounds_toArray, List.set_cons_zero, List.set_cons_succ]
    refine wpAnyN_tk (i := 25) (v := ?_) rfl (by kernel_rfl) (fun _ _ _ h => h) (Or.inl ⟨by rfl, ?_⟩) (by assumption) ?_
    rotate_left
    · intro w hSw; ((try dsimp only at hSw); go_simp; (try with_reducible rfl))
    simp only [Act.put, List.setIfInBounds_toArray, List.set_cons_zero, List.set_cons_succ]
    refine wpAnyN_tk (i := 26) (v := undef) rfl (by kernel_rfl) (fun _ _ _ h => h) (Or.inr ⟨by rfl, rfl⟩) (by assumption) ?_
    simp only [Act.put, List.setIfInBounds_toArray, List.set_cons_zero, List.set_cons_succ]
    refine wpAnyN_tk (i := 27) (v := undef) rfl (by kernel_rfl) (fun _ _ _ h => h) (Or.inr ⟨by rfl, rfl⟩) (by assumption) ?_
    simp only [Act.put, List.setIfInBounds_toArray, List.set_cons_zero, List.set_cons_succ]
    refine wpAnyN_tk (i := 28) (v := undef) rfl (by kernel_rfl) (fun _ _ _ h => h) (Or.inr ⟨by rfl, rfl⟩) (by assumption) ?_
    simp only [Act.put, List.setIfInBounds_toArray, List.set_cons_zero, List.set_cons_succ]
    refine wpAnyN_tk (i := 29) (v := .bool false) rfl (by kernel_rfl) (fun _ _ _ h => h) (Or.inl ⟨by rfl, fun w hSw => by (try dsimp only at hSw); go_simp; all_goals omega⟩) (by assumption) ?_
    simp only [Act.put, List.setIfInBounds_toArray, List.set_cons_zero, List.set_cons_succ]
    refine wpAnyN_tk (i := 30) (v := ?_) rfl (by kernel_rfl) (fun _ _ _ h => h) (Or.inl ⟨by rfl, ?_⟩) (by assumption) ?_
    rotate_left
    · intro w hSw; ((try dsimp only at hSw); go_simp; (try with_reducible rfl))
    simp only [Act.put, List.setIfInBounds_toArray, List.set_cons_zero, List.set_cons_succ]
    refine wpAnyN_done (by kernel_rfl) ?_ _
    go_wp2_with fail
    go_ret
    exact ⟨_, o, rfl, hst.out, by rw [hfin.out]; rfl⟩
end
end Go.Proofs.YtfgggkheadfiaaaR
