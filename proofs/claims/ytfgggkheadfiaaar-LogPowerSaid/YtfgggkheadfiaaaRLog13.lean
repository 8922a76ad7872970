/- Contract: the third step of Commit: its leaves are written. -/
import Derived.Test.YtfgggkheadfiaaaRLog12
namespace Go.Proofs.YtfgggkheadfiaaaR
open Go Go.RowKit Go.Shelf
attribute [local go_sem] Oper.semAt_some

theorem Held.cells {w : World} {p pd : Nat} {m : LogM} (h : Held w p pd m) : w.cell? ⟨p, 0, none⟩ = some (.pointer (some ⟨pd, 0, none⟩)) ∧ w.cell? ⟨p, 1, none⟩ = some (.int .i64 (m.first : Int)) ∧ w.cell? ⟨p, 3, none⟩ = some (.int .u64 (m.stamp.toNat : Int)) ∧ w.cell? ⟨p, 5, none⟩ = some (.int .i64 (m.end' : Int)) :=
  ⟨h.1, h.2.1, h.2.2.2.1, h.2.2.2.2.2.1⟩
theorem Step.thrIn {L D X : Nat} {w w' : World} {o o' : Own} (h : Step (fun k => k = L ∨ k = D ∨ k = X) w o w' o') (hf : ∀ k, k < w.heap.size → (o k).1 ≠ X) : Step (In L D) w o w' o' :=
  ⟨h.os, h.tape, h.output, h.size, h.own, fun k hk ht => h.block k hk (by rintro (h1 | h1 | h1); exact ht (.inl h1); exact ht (.inr h1); exact hf k hk h1)⟩
def Thr (L D X : Nat) : Nat → Prop := fun k => k = L ∨ k = D ∨ k = X
section
variable {w : World} {o : Own} {L D p pd : Nat} {s : LogM × DiskM}
def capLe (v : Value) : Prop := ∀ a n c, v = .slice a n c → c ≤ 9223372036854775807
set_option maxRecDepth 100000 in
set_option maxHeartbeats 6400000 in
theorem step3_any (hL : L ≠ 0) (hD : D ≠ 0) (hLD : L ≠ D) (h : LD w o L D p pd s) (hrow : s.2.row.length ≤ 800000) (b : List UInt8) (bv : Value) (hb : Bytes w o bv b) (hcapb : capLe bv) (hroom : LogM.many b ≤ s.1.n - s.1.end') (hblen : b.length ≤ 960000) (bl bb bm : Nat) (hbl : Box w o bl 57 (.pointer (some ⟨p, 0, none⟩))) (hbb : Box w o bb 28 bv) (hbm : Box w o bm 3 (.int .i64 (LogM.many b : Int))) :
    Calls Try.prog 85 #[.pointer (some ⟨bl, 0, none⟩), .pointer (some ⟨bb, 0, none⟩), .pointer (some ⟨bm, 0, none⟩)] w (Ret (In L D) w o fun v w' o' => v = .int .i64 (LogM.step3 b s).2 ∧ LD w' o' L D p pd (LogM.step3 b s).1) := by
  obtain ⟨m, d⟩ := s
  obtain ⟨hlg, hdk⟩ := h
  simp only at hlg hdk hroom hrow
  obtain ⟨X, hXg, hXf⟩ := fresh_tag o w.heap.size (L + D)
  have hX : X ≠ 0 ∧ X ≠ L ∧ X ≠ D := by omega
  obtain ⟨g1, g2, g3, g4, g5, g6, g7⟩ := hlg.wf
  have hN : ¬ In L D 0 := fun h => by rcases h with h | h <;> omega
  have hNT : ¬ Thr L D X 0 := fun h => by rcases h with h | h | h <;> omega
  obtain ⟨many, hmanyE⟩ : ∃ many, LogM.many b = many := ⟨_, rfl⟩
  have hmany1 : 1 ≤ many := by rw [← hmanyE]; exact LogM.many_pos b
  have hmanyD : many = max 1 ((b.length + 479) / 480) := by rw [← hmanyE]; rfl
  have hmanyDH := hidden hmanyD
  have hmany2 : many ≤ 2000 := by rw [hmanyE] at hroom; omega
  obtain ⟨st, hst⟩ : ∃ st, m.stamp + 1#64 = st := ⟨_, rfl⟩
  have hwr := wrap_add1 m.stamp
  rw [hst] at hwr
  obtain ⟨m1, hm1⟩ : ∃ m1 : LogM, ({ m with stamp := st } : LogM) = m1 := ⟨_, rfl⟩
  -- the stamp, the result's variable, the box of cut
  obtain ⟨rv, vs, ⟨c0, c1, c2, c3, c4, c5, c6, c7⟩, hf, -⟩ := hlg.open
  have f3 := hf 3
  have cl1 := hbl.cell
  have cb1 := hbb.cell
  have hplt : p < w.heap.size := hlg.lt
  have hl1 := hlg.set (m' := m1) hL 3 (.int .u64 (st.toNat : Int)) (fun rv => by rw [← hm1]; rfl) (by rw [← hm1]) (by rw [← hm1]; exact LogM.wf_stamp hlg.wf _)
  have hs1L := hlg.setStep 3 (.int .u64 (st.toNat : Int))
  have hd1 := hdk.step hs1L (fun e => hLD e.symm)
  have hb1 := hb.step hs1L (fun e => hL e.symm)
  have hbl1 := hbl.step hs1L (fun e => hL e.symm)
  have hbb1 := hbb.step hs1L (fun e => hL e.symm)
  have hbm1 := hbm.step hs1L (fun e => hL e.symm)
  have hsz1 : (w.setCell ⟨p, 3, none⟩ (.int .u64 (st.toNat : Int))).heap.size = w.heap.size := by simp
  have hs2n := (Step.refl Nobody (w.setCell ⟨p, 3, none⟩ (.int .u64 (st.toNat : Int))) o).alloc (.cells #[.int .i64 0] 23) (X, 0)
  have hr2 : ((w.setCell ⟨p, 3, none⟩ (.int .u64 (st.toNat : Int))).alloc (.cells #[.int .i64 0] 23)).heap[w.heap.size]? = some (.cells #[.int .i64 0] 23 (0, 0)) := by rw [← hsz1]; exact heap_alloc_new _ _
  have hro2 : tagAt o (w.setCell ⟨p, 3, none⟩ (.int .u64 (st.toNat : Int))).heap.size (X, 0) w.heap.size = (X, 0) := by rw [hsz1]; exact tagAt_same _ _ _
  have hs3n := (Step.refl Nobody ((w.setCell ⟨p, 3, none⟩ (.int .u64 (st.toNat : Int))).alloc (.cells #[.int .i64 0] 23)) (tagAt o (w.setCell ⟨p, 3, none⟩ (.int .u64 (st.toNat : Int))).heap.size (X, 0))).alloc (.cells #[bv] 28) (0, 0)
  have hbx := Box.new ((w.setCell ⟨p, 3, none⟩ (.int .u64 (st.toNat : Int))).alloc (.cells #[.int .i64 0] 23)) (tagAt o (w.setCell ⟨p, 3, none⟩ (.int .u64 (st.toNat : Int))).heap.size (X, 0)) 28 bv
  have hsz2 : ((w.setCell ⟨p, 3, none⟩ (.int .u64 (st.toNat : Int))).alloc (.cells #[.int .i64 0] 23)).heap.size = w.heap.size + 1 := by simp
  have hl3 := (hl1.step hs2n (fun h => h) (fun h => h)).step hs3n (fun h => h) (fun h => h)
  have hd3 := (hd1.step hs2n (fun h => h)).step hs3n (fun h => h)
  have hb3 := (hb1.step hs2n (fun h => h)).step hs3n (fun h => h)
  have hbl3 := (hbl1.step hs2n (fun h => h)).step hs3n (fun h => h)
  have hbm3 := (hbm1.step hs2n (fun h => h)).step hs3n (fun h => h)
  have hrw2 := lt_of_block hr2
  have hr3 := (hs3n.block w.heap.size hrw2 (fun h => h)).trans hr2
  have hro3 := (hs3n.own w.heap.size hrw2).trans hro2
  have hs3 : Step (Thr L D X) w o _ _ := ((hs1L.mono (fun k h => (.inl h : Thr L D X k))).trans (hs2n.mono (fun k h => h.elim))).trans (hs3n.mono (fun k h => h.elim))
  have hbllt := lt_of_block hbl.1
  have hbblt := lt_of_block hbb.1
  have cl1a : (w.alloc (.cells #[.int .i64 0] 23)).cell? ⟨bl, 0, none⟩ = some (.pointer (some ⟨p, 0, none⟩)) := by rw [World.cell?_alloc_lt _ _ _ hbllt]; exact cl1
  have c3a : (w.alloc (.cells #[.int .i64 0] 23)).cell? ⟨p, 3, none⟩ = some (.int .u64 (m.stamp.toNat : Int)) := by rw [World.cell?_alloc_lt _ _ _ hplt]; exact c3
  have f3a : (w.alloc (.cells #[.int .i64 0] 23)).frozen? ⟨p, 3, none⟩ = false := by rw [World.frozen?_of_block (w := w) (a := ⟨p, 3, none⟩) (Below.heap_alloc _ _ _ hplt)]; exact f3
  have cb1a : ((w.setCell ⟨p, 3, none⟩ (.int .u64 (st.toNat : Int))).alloc (.cells #[.int .i64 0] 23)).cell? ⟨bb, 0, none⟩ = some bv := by rw [World.cell?_alloc_lt _ _ _ (by simpa using hbblt), World.cell?_setCell_other _ _ _ _ (by simp)]; exact cb1
  clear cl1 c3 f3 cb1
  obtain ⟨ba, bc, hbv⟩ := slc_form hb
  have hfirst : m1.first = m.first := by rw [← hm1]
  have hend : m1.end' = m.end' := by rw [← hm1]
  have hstm : m1.stamp = st := by rw [← hm1]
  have hE : LogM.step3 b (m, d) = if (putL m1 many b (List.range many) d).2 ≠ 0 then ((m1, (putL m1 many b (List.range many) d).1), (putL m1 many b (List.range many) d).2) else ((m1, (putL m1 many b (List.range many) d).1.sync.1), (putL m1 many b (List.range many) d).1.sync.2) := by
    unfold LogM.step3
    simp only [hst, hm1, hmanyE, put_eq, ← List.range_eq_range']
  have hEH := hidden hE
  have hm1H := hidden hm1
  have hfirstH := hidden hfirst
  have hendH := hidden hend
  have hpsome : ∀ {a : Option Addr} {c : Nat}, bv = .slice a b.length c → (480 < b.length → ∃ b' off', a = some ⟨b', off', none⟩) ∧ b.length ≤ c ∧ c ≤ 9223372036854775807 := by
    intro a c hv
    rcases hb.cases with ⟨⟨a', c', hv'⟩, hnil⟩ | ⟨b', off', cap', hv', h1, h2, _⟩
    · exact ⟨fun h => by rw [hnil] at h; simp at h, by rw [hnil]; simp, hcapb _ _ _ hv⟩
    · rw [hv'] at hv
      simp only [Value.slice.injEq] at hv
      obtain ⟨rfl, _, rfl⟩ := hv
      exact ⟨fun _ => ⟨_, _, rfl⟩, h1, by simp only [maxLen] at h2; omega⟩
  rw [hmanyE] at hbm3
  rw [hsz2] at hbx
  clear hE hm1 hfirst hend hs1L hl1 hd1 hb1 hbl1 hbb1 hbm1 hlg hdk hmanyD hbl hbb hbm c0 c1 c2 c4 c5 c6 c7 hf hst hroom hs2n hr2 hro2 hs3n hb
  subst hbv
  obtain ⟨hsm, hcp, hcm⟩ := hpsome rfl
  clear hpsome
  refine (callsIn_wide (n := 9)).1 ?_
  refine callsIn_of_wp_marks Try.func85 rfl trivial ?_ rfl
  simp only [Try.ntmps85, List.size_toArray, List.length_cons, List.length_nil, Nat.reduceAdd, Nat.reduceSub, Array.replicate_succ, Array.replicate_zero, List.push_toArray, List.append_toArray, List.nil_append, List.cons_append]
  gi_wp2_with (refine ⟨trivial, (callsIn_wide.2 (cut_any _ _ _ _)).mono ?_⟩; rintro e w' ⟨rfl, rfl⟩)
  clear cl1a c3a f3a cb1a hwr
  generalize hW3 : ((w.setCell ⟨p, 3, none⟩ (.int .u64 (st.toNat : Int))).alloc (.cells #[.int .i64 0] 23)).alloc (.cells #[.slice ba b.length bc] 28) = W0 at *
  rw [hsz2] at hs3 hl3 hd3 hb3 hbl3 hbm3 hro3
  generalize ho3 : tagAt (tagAt o (w.setCell ⟨p, 3, none⟩ (.int .u64 (st.toNat : Int))).heap.size (X, 0)) (w.heap.size + 1) (0, 0) = o0 at *
  clear hW3 ho3 hsz1 hsz2
  obtain ⟨rb, hrb⟩ : ∃ rb, w.heap.size = rb := ⟨_, rfl⟩
  rw [hrb] at hr3 hro3 hbx ⊢
  have hrbge : w.heap.size ≤ rb := by omega
  clear hrb
  have hrb0 : rb < W0.heap.size := lt_of_block hr3
  obtain ⟨pv, hpv⟩ : ∃ pv : Nat → Value, ∀ x, partV (.slice ba b.length bc) x = pv x := ⟨_, fun _ => rfl⟩
  have hpart : ∀ x, x < many → Bytes W0 o0 (pv x) (LogM.part b x) := fun x hx => by rw [← hpv]; exact part_bytes hb3 x (by rw [hmanyE]; exact hx)
  have hpartH := hidden hpart
  have hpvH := hidden hpv
  clear hpart hpv hb3 hmanyE
  obtain ⟨PL, hPL⟩ : ∃ PL : List (Fin many) → DiskM × Int, ∀ pre, PL pre = putL m1 many b (pre.map (·.val)) d := ⟨_, fun _ => rfl⟩
  have hPLH := hidden hPL
  clear hPL
  have own : ∀ (e : Int → Prop) (val : List (Fin many) → Int), OwnFrom W0.heap.size (fun pre W => ∃ o', Step (Thr L D X) W0 o0 W o' ∧ LogAt W o' L p pd m1 ∧ DiskAt W o' D pd (PL pre).1 ∧ e (PL pre).2 ∧ W.heap[rb]? = some (.cells #[.int .i64 (val pre)] 23 (0, 0)) ∧ o' rb = (X, 0)) := by
    rintro e val pre A A' row ⟨o', hs, hl, hd, he, hr, hro⟩ hg hrow
    have hoth : Others A row := fun r e => (hrow r e).2
    exact ⟨ext A o', hs.kept hg (fun r e => (hrow r e).1), hl.kept hoth hg, hd.kept hoth hg, he, hoth.same hg hr, by unfold ext; rw [if_pos (lt_of_block hr)]; exact hro⟩
  obtain ⟨EQ0, hEQ0⟩ : ∃ EQ0 : Int → Prop, ∀ e, EQ0 e = (e = 0) := ⟨_, fun _ => rfl⟩
  obtain ⟨NE0, hNE0⟩ : ∃ NE0 : Int → Prop, ∀ e, NE0 e = (e ≠ 0) := ⟨_, fun _ => rfl⟩
  have hEQ0H := hidden hEQ0
  have hNE0H := hidden hNE0
  clear hEQ0 hNE0
  refine wpIn_rangeFunc_ownG (α := Fin many) rfl (by omega) (gf := 116) (lb := #[.pointer (some ⟨rb + 1, 0, none⟩)]) rfl trivial (enters_of Try.func116 (by kernel_rfl) rfl)
    (cut_stops 8 (by omega) (rb + 1) ba b.length bc hsm hcp hcm (by omega) many hmanyDH.out W0 hbx.1) (fun h k => k.trans h) (fun W l ob o' hl hk hc _ => ?hkb) (Below.refl _ _) (fun _ => rfl)
    (fun pre W => ∃ o', Step (Thr L D X) W0 o0 W o' ∧ LogAt W o' L p pd m1 ∧ DiskAt W o' D pd (PL pre).1 ∧ EQ0 (PL pre).2 ∧ W.heap[rb]? = some (.cells #[.int .i64 0] 23 (0, 0)) ∧ o' rb = (X, 0))
    (fun c pre W => c = .ret ∧ ∃ o', Step (Thr L D X) W0 o0 W o' ∧ LogAt W o' L p pd m1 ∧ DiskAt W o' D pd (PL pre).1 ∧ NE0 (PL pre).2 ∧ W.heap[rb]? = some (.cells #[.int .i64 (PL pre).2] 23 (0, 0)) ∧ o' rb = (X, 0))
    (own EQ0 (fun _ => 0)) (fun c pre A A' row h hg hr => ⟨h.1, own NE0 (fun pre => (PL pre).2) pre A A' row h.2 hg hr⟩)
    ⟨o0, Step.refl _ _ _, hl3, by rw [hPLH.out]; exact hd3, by rw [hPLH.out, hEQ0H.out]; rfl, hr3, hro3⟩
    (fun x => { tmps := #[.pointer (some ⟨bl, 0, none⟩), .pointer (some ⟨bb, 0, none⟩), .pointer (some ⟨bm, 0, none⟩), .pointer (some ⟨rb, 0, none⟩), .int .i64 (x.val : Int), pv x.val, undef, .pointer (some ⟨p, 0, none⟩), .pointer (some ⟨p, 0, none⟩), .pointer (some ⟨p, 3, none⟩), .int .u64 (m.stamp.toNat : Int), .int .u64 (st.toNat : Int), .pointer (some ⟨p, 0, none⟩), .pointer (some ⟨p, 3, none⟩), .slice ba b.length bc, .func (.func 116) #[] #[.pointer (some ⟨rb + 1, 0, none⟩)], .int .i64 (x.val : Int), pv x.val, undef, undef, undef, undef, undef, undef, undef, undef, undef, undef, undef, undef, undef, undef, undef, undef, undef, undef, undef, undef, undef, undef, undef, undef, undef, undef, undef, undef, undef, undef, undef, undef, undef], defers := [] }) ?assign ?body ?done ?stop
  case hkb =>
    show (W.putObj l o').heap[rb + 1]? = W.heap[rb + 1]?
    exact World.putObj_heap_other (by have := lt_of_block hbx.1; omega)
  case assign =>
    intro l x W K hK
    simp only [hpvH.out]
    gi_wp2
    exact hK
  case body =>
    rintro l pre x W ⟨o1, hs, hl, hd, he, hr, hro⟩ hlen
    have hplain := plainify_plain (B := W0.heap.size) (W := W) (o := o1) (Thr L D X) hNT
    replace hs := hs.plainify (B := W0.heap.size) (Nat.le_refl _)
    replace hl := hl.plainify (B := W0.heap.size)
    replace hd := hd.plainify (B := W0.heap.size)
    replace hro : plainify W0.heap.size W o1 rb = (X, 0) := by rw [plainify_cells hr]; exact hro
    generalize plainify W0.heap.size W o1 = o2 at *
    clear o1
    have bl' := hbl3.step hs hNT
    have bm' := hbm3.step hs hNT
    have bx' := hbx.step hs hNT
    obtain ⟨x, hx⟩ := x
    have hpb := (hpartH.out x hx).step hs hNT
    have hrowd : (PL pre).1.row.length ≤ 900000 := by
      rw [hPLH.out]
      have := putL_row m1 many b (pre.map (·.val)) d
      rw [List.length_map] at this; omega
    have hsnoc : PL (pre ++ [⟨x, hx⟩]) = (PL pre).1.write ((m1.first + m1.end' + x : Nat) : Int) (LeafM.page ⟨m1.stamp, x, many, LogM.part b x⟩) := by
      rw [hPLH.out, hPLH.out, List.map_append, List.map_cons, List.map_nil, putL_snoc, ← hPLH.out, if_neg (by rw [hEQ0H.out] at he; omega)]
    have hplen := LogM.length_part b x
    obtain ⟨pb, hpbE⟩ : ∃ pb, LogM.part b x = pb := ⟨_, rfl⟩
    rw [hpbE] at hpb hsnoc hplen
    clear hpbE
    generalize hdd1 : (PL pre).1 = d1 at *
    clear hdd1
    rw [hstm] at hsnoc
    obtain ⟨d2, e2, hw⟩ : ∃ d2 e2, d1.write ((m1.first + m1.end' + x : Nat) : Int) (LeafM.page ⟨st, x, many, pb⟩) = (d2, e2) := ⟨_, _, rfl⟩
    rw [hw] at hsnoc
    have hsnocH := hidden hsnoc
    have hwH := hidden hw
    obtain ⟨pa, pc, hpvf⟩ := slc_form hpb
    have hheld := hl.held.cells
    obtain ⟨w1, w2, w3, w4, w5, -⟩ := hl.wf
    have hS0 : W.cell? ⟨bl, 0, none⟩ = some (.pointer (some ⟨p, 0, none⟩)) ∧ W.cell? ⟨bm, 0, none⟩ = some (.int .i64 (many : Int)) ∧ W.cell? ⟨p, 0, none⟩ = some (.pointer (some ⟨pd, 0, none⟩)) ∧ W.cell? ⟨p, 1, none⟩ = some (.int .i64 (m1.first : Int)) ∧ W.cell? ⟨p, 3, none⟩ = some (.int .u64 (m1.stamp.toNat : Int)) ∧ W.cell? ⟨p, 5, none⟩ = some (.int .i64 (m1.end' : Int)) := ⟨bl'.cell, bm'.cell, hheld⟩
    have i1 : (m1.first : Int) ≤ 4096 := by omega
    have i2 : (m1.end' : Int) ≤ 2000 := by omega
    have i3 : (x : Int) ≤ 2000 := by omega
    clear hsnoc hw he hheld w1 w2 w3 w4 w5 own hlen
    rw [hpvf] at hpb ⊢
    clear hpvf
    gi_wp2
    refine wp_region_round (fun w' => w'.cell? ⟨bl, 0, none⟩ = some (.pointer (some ⟨p, 0, none⟩)) ∧ w'.cell? ⟨bm, 0, none⟩ = some (.int .i64 (many : Int)) ∧ w'.cell? ⟨p, 0, none⟩ = some (.pointer (some ⟨pd, 0, none⟩)) ∧ w'.cell? ⟨p, 1, none⟩ = some (.int .i64 (m1.first : Int)) ∧ w'.cell? ⟨p, 3, none⟩ = some (.int .u64 (m1.stamp.toNat : Int)) ∧ w'.cell? ⟨p, 5, none⟩ = some (.int .i64 (m1.end' : Int))) (fun _ => true) (by kernel_rfl) (by kernel_rfl) (fun ⟨_, _, h⟩ => h) hS0 (fun hHeld => ?_)
    refine wpAnyN_take (i := 0) (v := ?_) rfl (by kernel_rfl) (by kernel_rfl) (by kernel_rfl) (by kernel_rfl) (fun _ _ _ h => h) (Or.inl ⟨by rfl, ?_⟩) (by assumption) ?_
    rotate_left
    · intro w hSw; ((try dsimp only at hSw); go_simp; (try with_reducible rfl))
    simp only [Act.put, List.setIfInBounds_toArray, List.set_cons_zero, List.set_cons_succ]
    refine wpAnyN_take (i := 1) (v := ?_) rfl (by kernel_rfl) (by kernel_rfl) (by kernel_rfl) (by kernel_rfl) (fun _ _ _ h => h) (Or.inl ⟨by rfl, ?_⟩) (by assumption) ?_
    rotate_left
    · intro w hSw; ((try dsimp only at hSw); go_simp; (try with_reducible rfl))
    simp only [Act.put, List.setIfInBounds_toArray, List.set_cons_zero, List.set_cons_succ]
    refine wpAnyN_take (i := 2) (v := ?_) rfl (by kernel_rfl) (by kernel_rfl) (by kernel_rfl) (by kernel_rfl) (fun _ _ _ h => h) (Or.inl ⟨by rfl, ?_⟩) (by assumption) ?_
    rotate_left
    · intro w hSw; ((try dsimp only at hSw); go_simp; (try with_reducible rfl))
    simp only [Act.put, List.setIfInBounds_toArray, List.set_cons_zero, List.set_cons_succ]
    refine wpAnyN_take (i := 3) (v := ?_) rfl (by kernel_rfl) (by kernel_rfl) (by kernel_rfl) (by kernel_rfl) (fun _ _ _ h => h) (Or.inl ⟨by rfl, ?_⟩) (by assumption) ?_
    rotate_left
    · intro w hSw; ((try dsimp only at hSw); go_simp; (try with_reducible rfl))
    simp only [Act.put, List.setIfInBounds_toArray, List.set_cons_zero, List.set_cons_succ]
    refine wpAnyN_take (i := 4) (v := ?_) rfl (by kernel_rfl) (by kernel_rfl) (by kernel_rfl) (by kernel_rfl) (fun _ _ _ h => h) (Or.inl ⟨by rfl, ?_⟩) (by assumption) ?_
    rotate_left
    · intro w hSw; ((try dsimp only at hSw); go_simp; (try with_reducible rfl))
    simp only [Act.put, List.setIfInBounds_toArray, List.set_cons_zero, List.set_cons_succ]
    refine wpAnyN_take (i := 5) (v := ?_) rfl (by kernel_rfl) (by kernel_rfl) (by kernel_rfl) (by kernel_rfl) (fun _ _ _ h => h) (Or.inl ⟨by rfl, ?_⟩) (by assumption) ?_
    rotate_left
    · intro w hSw; ((try dsimp only at hSw); go_simp; (try with_reducible rfl))
    simp only [Act.put, List.setIfInBounds_toArray, List.set_cons_zero, List.set_cons_succ]
    refine wpAnyN_take (i := 6) (v := ?_) rfl (by kernel_rfl) (by kernel_rfl) (by kernel_rfl) (by kernel_rfl) (fun _ _ _ h => h) (Or.inl ⟨by rfl, ?_⟩) (by assumption) ?_
    rotate_left
    · intro w hSw; ((try dsimp only at hSw); go_simp; (try with_reducible rfl))
    simp only [Act.put, List.setIfInBounds_toArray, List.set_cons_zero, List.set_cons_succ]
    refine wpAnyN_take (i := 7) (v := ?_) rfl (by kernel_rfl) (by kernel_rfl) (by kernel_rfl) (by kernel_rfl) (fun _ _ _ h => h) (Or.inl ⟨by rfl, ?_⟩) (by assumption) ?_
    rotate_left
    · intro w hSw; ((try dsimp only at hSw); go_simp; (try with_reducible rfl))
    simp only [Act.put, List.setIfInBounds_toArray, List.set_cons_zero, List.set_cons_succ]
    refine wpAnyN_take (i := 8) (v := ?_) rfl (by kernel_rfl) (by kernel_rfl) (by kernel_rfl) (by kernel_rfl) (fun _ _ _ h => h) (Or.inl ⟨by rfl, ?_⟩) (by assumption) ?_
    rotate_left
    · intro w hSw; ((try dsimp only at hSw); go_simp; (try with_reducible rfl))
    simp only [Act.put, List.setIfInBounds_toArray, List.set_cons_zero, List.set_cons_succ]
    refine wpAnyN_take (i := 9) (v := ?_) rfl (by kernel_rfl) (by kernel_rfl) (by kernel_rfl) (by kernel_rfl) (fun _ _ _ h => h) (Or.inl ⟨by rfl, ?_⟩) (by assumption) ?_
    rotate_left
    · intro w hSw; ((try dsimp only at hSw); go_simp; (try with_reducible rfl))
    simp only [Act.put, List.setIfInBounds_toArray, List.set_cons_zero, List.set_cons_succ]
    refine wpAnyN_take (i := 10) (v := ?_) rfl (by kernel_rfl) (by kernel_rfl) (by kernel_rfl) (by kernel_rfl) (fun _ _ _ h => h) (Or.inl ⟨by rfl, ?_⟩) (by assumption) ?_
    rotate_left
    · intro w hSw; ((try dsimp only at hSw); go_simp; (try with_reducible rfl))
    simp only [Act.put, List.setIfInBounds_toArray, List.set_cons_zero, List.set_cons_succ]
    refine wpAnyN_take (i := 11) (v := ?_) rfl (by kernel_rfl) (by kernel_rfl) (by kernel_rfl) (by kernel_rfl) (fun _ _ _ h => h) (Or.inl ⟨by rfl, ?_⟩) (by assumption) ?_
    rotate_left
    · intro w hSw; ((try dsimp only at hSw); go_simp; (try with_reducible rfl))
    simp only [Act.put, List.setIfInBounds_toArray, List.set_cons_zero, List.set_cons_succ]
    refine wpAnyN_take (i := 12) (v := ?_) rfl (by kernel_rfl) (by kernel_rfl) (by kernel_rfl) (by kernel_rfl) (fun _ _ _ h => h) (Or.inl ⟨by rfl, ?_⟩) (by assumption) ?_
    rotate_left
    · intro w hSw; ((try dsimp only at hSw); go_simp; (try with_reducible rfl))
    simp only [Act.put, List.setIfInBounds_toArray, List.set_cons_zero, List.set_cons_succ]
    refine wpAnyN_take (i := 13) (v := ?_) rfl (by kernel_rfl) (by kernel_rfl) (by kernel_rfl) (by kernel_rfl) (fun _ _ _ h => h) (Or.inl ⟨by rfl, ?_⟩) (by assumption) ?_
    rotate_left
    · intro w hSw; ((try dsimp only at hSw); go_simp; (try with_reducible rfl))
    simp only [Act.put, List.setIfInBounds_toArray, List.set_cons_zero, List.set_cons_succ]
    refine wpAnyN_take (i := 14) (v := ?_) rfl (by kernel_rfl) (by kernel_rfl) (by kernel_rfl) (by kernel_rfl) (fun _ _ _ h => h) (Or.inl ⟨by rfl, ?_⟩) (by assumption) ?_
    rotate_left
    · intro w hSw; ((try dsimp only at hSw); go_simp; (try with_reducible rfl))
    simp only [Act.put, List.setIfInBounds_toArray, List.set_cons_zero, List.set_cons_succ]
    refine wpAnyN_take (i := 15) (v := ?_) rfl (by kernel_rfl) (by kernel_rfl) (by kernel_rfl) (by kernel_rfl) (fun _ _ _ h => h) (Or.inl ⟨by rfl, ?_⟩) (by assumption) ?_
    rotate_left
    · intro w hSw; ((try dsimp only at hSw); go_simp; (try with_reducible rfl))
    simp only [Act.put, List.setIfInBounds_toArray, List.set_cons_zero, List.set_cons_succ]
    refine wpAnyN_take (i := 16) (v := ?_) rfl (by kernel_rfl) (by kernel_rfl) (by kernel_rfl) (by kernel_rfl) (fun _ _ _ h => h) (Or.inl ⟨by rfl, ?_⟩) (by assumption) ?_
    rotate_left
    · intro w hSw; ((try dsimp only at hSw); go_simp; (try with_reducible rfl))
    simp only [Act.put, List.setIfInBounds_toArray, List.set_cons_zero, List.set_cons_succ]
    refine wpAnyN_take (i := 17) (v := ?_) rfl (by kernel_rfl) (by kernel_rfl) (by kernel_rfl) (by kernel_rfl) (fun _ _ _ h => h) (Or.inl ⟨by rfl, ?_⟩) (by assumption) ?_
    rotate_left
    · intro w hSw; ((try dsimp only at hSw); go_simp; (try with_reducible rfl))
    simp only [Act.put, List.setIfInBounds_toArray, List.set_cons_zero, List.set_cons_succ]
    refine wpAnyN_take (i := 18) (v := ?_) rfl (by kernel_rfl) (by kernel_rfl) (by kernel_rfl) (by kernel_rfl) (fun _ _ _ h => h) (Or.inl ⟨by rfl, ?_⟩) (by assumption) ?_
    rotate_left
    · intro w hSw; ((try dsimp only at hSw); go_simp; (try with_reducible rfl))
    simp only [Act.put, List.setIfInBounds_toArray, List.set_cons_zero, List.set_cons_succ]
    refine wpAnyN_take (i := 19) (v := ?_) rfl (by kernel_rfl) (by kernel_rfl) (by kernel_rfl) (by kernel_rfl) (fun _ _ _ h => h) (Or.inl ⟨by rfl, ?_⟩) (by assumption) ?_
    rotate_left
    · intro w hSw; ((try dsimp only at hSw); go_simp; (try with_reducible rfl))
    simp only [Act.put, List.setIfInBounds_toArray, List.set_cons_zero, List.set_cons_succ]
    refine wpAnyN_take (i := 20) (v := ?_) rfl (by kernel_rfl) (by kernel_rfl) (by kernel_rfl) (by kernel_rfl) (fun _ _ _ h => h) (Or.inl ⟨by rfl, ?_⟩) (by assumption) ?_
    rotate_left
    · intro w hSw; ((try dsimp only at hSw); go_simp; (try with_reducible rfl))
    simp only [Act.put, List.setIfInBounds_toArray, List.set_cons_zero, List.set_cons_succ]
    refine wpAnyN_take (i := 21) (v := ?_) rfl (by kernel_rfl) (by kernel_rfl) (by kernel_rfl) (by kernel_rfl) (fun _ _ _ h => h) (Or.inl ⟨by rfl, ?_⟩) (by assumption) ?_
    rotate_left
    · intro w hSw; ((try dsimp only at hSw); go_simp; (try with_reducible rfl))
    simp only [Act.put, List.setIfInBounds_toArray, List.set_cons_zero, List.set_cons_succ]
    refine wpAnyN_take (i := 22) (v := ?_) rfl (by kernel_rfl) (by kernel_rfl) (by kernel_rfl) (by kernel_rfl) (fun _ _ _ h => h) (Or.inl ⟨by rfl, ?_⟩) (by assumption) ?_
    rotate_left
    · intro w hSw; ((try dsimp only at hSw); go_simp; (try with_reducible rfl))
    simp only [Act.put, List.setIfInBounds_toArray, List.set_cons_zero, List.set_cons_succ]
    rw [wrap_i64 (n := (m1.first : Int) + (m1.end' : Int)) (by omega) (by omega), wrap_i64 (n := (m1.first : Int) + (m1.end' : Int) + (x : Int)) (by omega) (by omega), show (m1.first : Int) + (m1.end' : Int) + (x : Int) = ((m1.first + m1.end' + x : Nat) : Int) from by omega]
    obtain ⟨at', hat⟩ : ∃ at' : Int, ((m1.first + m1.end' + x : Nat) : Int) = at' := ⟨_, rfl⟩
    rw [hat]
    have hw := hwH.out
    rw [hat] at hw
    clear hat hwH
    have hdr : Step Nobody W o2 W.drew o2 := (Step.refl _ _ _).drew
    have hl2 := hl.step hdr (fun h => h) (fun h => h)
    have hd2 := hd.step hdr (fun h => h)
    have hpb2 := hpb.step hdr (fun h => h)
    have hpage := page_any (w := W.drew) (o := o2) (bv := .slice pa pb.length pc) ⟨st, x, many, pb⟩ hpb2 hplen (by show x ≤ 1000000; omega) (by show many ≤ 1000000; omega)
    have kbl := lt_of_block bl'.1
    have kbm := lt_of_block bm'.1
    have kpl := hl.lt
    have keep : ∀ {A A' : World} {oa oa' : Own}, Step (Only D) A oa A' oa' → W.heap.size ≤ A.heap.size → (∀ k, k < W.heap.size → oa k = o2 k) → (A.cell? ⟨bl, 0, none⟩ = some (.pointer (some ⟨p, 0, none⟩)) ∧ A.cell? ⟨bm, 0, none⟩ = some (.int .i64 (many : Int)) ∧ A.cell? ⟨p, 0, none⟩ = some (.pointer (some ⟨pd, 0, none⟩)) ∧ A.cell? ⟨p, 1, none⟩ = some (.int .i64 (m1.first : Int)) ∧ A.cell? ⟨p, 3, none⟩ = some (.int .u64 (m1.stamp.toNat : Int)) ∧ A.cell? ⟨p, 5, none⟩ = some (.int .i64 (m1.end' : Int))) → (A'.cell? ⟨bl, 0, none⟩ = some (.pointer (some ⟨p, 0, none⟩)) ∧ A'.cell? ⟨bm, 0, none⟩ = some (.int .i64 (many : Int)) ∧ A'.cell? ⟨p, 0, none⟩ = some (.pointer (some ⟨pd, 0, none⟩)) ∧ A'.cell? ⟨p, 1, none⟩ = some (.int .i64 (m1.first : Int)) ∧ A'.cell? ⟨p, 3, none⟩ = some (.int .u64 (m1.stamp.toNat : Int)) ∧ A'.cell? ⟨p, 5, none⟩ = some (.int .i64 (m1.end' : Int))) := fun hs hle ho h => by
      have e1 := hs.block bl (by omega) (by rw [ho bl kbl, bl'.2]; exact fun e => hD e.symm)
      have e2 := hs.block bm (by omega) (by rw [ho bm kbm, bm'.2]; exact fun e => hD e.symm)
      have e3 := hs.block p (by omega) (by rw [ho p kpl, hl.ofL]; exact fun e => hLD e)
      exact ⟨(World.cell?_of_block (a := ⟨bl, 0, none⟩) e1).trans h.1, (World.cell?_of_block (a := ⟨bm, 0, none⟩) e2).trans h.2.1, (World.cell?_of_block (a := ⟨p, 0, none⟩) e3).trans h.2.2.1, (World.cell?_of_block (a := ⟨p, 1, none⟩) e3).trans h.2.2.2.1, (World.cell?_of_block (a := ⟨p, 3, none⟩) e3).trans h.2.2.2.2.1, (World.cell?_of_block (a := ⟨p, 5, none⟩) e3).trans h.2.2.2.2.2⟩
    refine wpAnyN_one (i := 23) rfl (by kernel_rfl) ?_
    go_wp2_with fail
    refine hpage.mono ?_; rintro e W6 ⟨v6, o6, rfl, hs6, hn6⟩
    have hS6 := keep (hs6.only D) (Nat.le_refl _) (fun _ _ => rfl) hHeld
    have hl6 := hl2.step hs6 (fun h => h) (fun h => h)
    have hd6 := hd2.step hs6 (fun h => h)
    have hp6 := hn6.bytes
    have hst6 : Step (In L D) W o2 W6 o6 := hdr.in0.trans hs6.in0
    have hwr := write_is hd6 hD (by omega) at' v6 _ hp6 hw
    clear hpage hn6 hl2 hd2 hdr hpb hpb2
    go_wp2_with fail
    refine ⟨fun _ => hS6, ?_⟩
    refine wpAnyN_one (i := 24) rfl (by kernel_rfl) ?_
    go_wp2_with fail
    refine hwr.mono ?_; rintro e W7 ⟨v7, o7, rfl, hs7, rfl, hd7⟩
    have hsz6 : W.heap.size ≤ W6.heap.size := hst6.size
    have hS7 := keep hs7 hsz6 (fun k hk => hst6.own k hk) hS6
    have hl7 := hl6.step hs7 (fun e => hLD e) (fun e => hD e.symm)
    have hst7 : Step (In L D) W o2 W7 o7 := hst6.trans hs7.inD
    clear hwr hl6 hd6 hs6 hs7 hp6 hst6 hHeld keep
    go_wp2_with fail
    refine ⟨fun _ => hS7, ?_⟩
    refine wpAnyN_one (i := 25) rfl (by kernel_rfl) ?_
    go_wp2_with fail
    refine ⟨fun _ => hS7, ?_⟩
    refine wpAnyN_done (by kernel_rfl) ?_ _
    have hrX : ¬ In L D (o2 rb).1 := by rw [hro]; rintro (h | h); exact hX.2.1 h; exact hX.2.2 h
    have hrl := lt_of_block hr
    have hr7 : W7.heap[rb]? = some (.cells #[.int .i64 0] 23 (0, 0)) := (hst7.block rb hrl hrX).trans hr
    have hro7 : o7 rb = (X, 0) := (hst7.own rb hrl).trans hro
    have hstT : Step (Thr L D X) W o2 W7 o7 := hst7.mono (fun k h => by rcases h with h | h; exact .inl h; exact .inr (.inl h))
    have hbx7 : W7.heap[rb + 1]? = W.heap[rb + 1]? := hst7.block (rb + 1) (lt_of_block bx'.1) (by rw [bx'.2]; exact hN)
    by_cases he2 : e2 = 0
    · have hI : ∃ o', Step (Thr L D X) W0 o0 W7 o' ∧ LogAt W7 o' L p pd m1 ∧ DiskAt W7 o' D pd (PL (pre ++ [⟨x, hx⟩])).1 ∧ EQ0 (PL (pre ++ [⟨x, hx⟩])).2 ∧ W7.heap[rb]? = some (.cells #[.int .i64 0] 23 (0, 0)) ∧ o' rb = (X, 0) :=
        ⟨o7, hs.trans hstT, hl7, by rw [hsnocH.out]; exact hd7, by rw [hsnocH.out, hEQ0H.out]; exact he2, hr7, hro7⟩
      have hIH := hidden hI
      have hKFH := hidden (hplain.keeps hstT)
      subst he2
      clear hI hS7 hS6 hl7 hd7
      gi_wp2
      exact ⟨hKFH.out, hbx7, hIH.out⟩
    · have hne : (e2 != 0) = true := by simpa using he2
      have fr7 := free_of_block hr7 0
      have cr7 : W7.cell? ⟨rb, 0, none⟩ = some (.int .i64 0) := cell_of_one hr7
      have hset := (Step.refl (Only X) W7 o7).setCell (a := ⟨rb, 0, none⟩) (.int .i64 e2) (.inl (by show (o7 rb).1 = X; rw [hro7]))
      have hsetT : Step (Thr L D X) W7 o7 _ o7 := hset.mono (fun k h => (.inr (.inr h) : Thr L D X k))
      have hr8 := heap_setCell_at (i := 0) (.int .i64 e2) hr7
      simp only [List.set_cons_zero] at hr8
      have hI : ∃ o', Step (Thr L D X) W0 o0 (W7.setCell ⟨rb, 0, none⟩ (.int .i64 e2)) o' ∧ LogAt (W7.setCell ⟨rb, 0, none⟩ (.int .i64 e2)) o' L p pd m1 ∧ DiskAt (W7.setCell ⟨rb, 0, none⟩ (.int .i64 e2)) o' D pd (PL (pre ++ [⟨x, hx⟩])).1 ∧ NE0 (PL (pre ++ [⟨x, hx⟩])).2 ∧ (W7.setCell ⟨rb, 0, none⟩ (.int .i64 e2)).heap[rb]? = some (.cells #[.int .i64 (PL (pre ++ [⟨x, hx⟩])).2] 23 (0, 0)) ∧ o' rb = (X, 0) :=
        ⟨o7, (hs.trans hstT).trans hsetT, hl7.step hset (fun e => hX.2.1 e.symm) (fun e => hX.1 e.symm), by rw [hsnocH.out]; exact hd7.step hset (fun e => hX.2.2 e.symm), by rw [hsnocH.out, hNE0H.out]; exact he2, by rw [hsnocH.out]; exact hr8, hro7⟩
      have hIH := hidden hI
      have hKFH := hidden (hplain.keeps (hstT.trans hsetT))
      clear hI hS7 hS6 hl7 hd7 he2 hset hsetT hr8 hr7
      gi_wp2
      exact ⟨hKFH.out, rfl, hIH.out⟩
  case done =>
    rintro D' xs W hD' hxs ⟨o1, hs, hl, hd, he, hr, hro⟩ hK
    have hplain := plainify_plain (B := W0.heap.size) (W := W) (o := o1) (Thr L D X) hNT
    replace hs := hs.plainify (B := W0.heap.size) (Nat.le_refl _)
    replace hl := hl.plainify (B := W0.heap.size)
    replace hd := hd.plainify (B := W0.heap.size)
    replace hro : plainify W0.heap.size W o1 rb = (X, 0) := by rw [plainify_cells hr]; exact hro
    generalize plainify W0.heap.size W o1 = o2 at *
    clear o1
    have hKt := hplain D' _ hD' hK rfl
    have hrow1 : (PL xs).1.row.length ≤ 1000000 := by
      rw [hPLH.out, hxs]
      have := putL_row m1 many b (List.range many) d
      rw [List.length_range] at this; omega
    have hE1 : (putL m1 many b (List.range many) d).2 = 0 := by rw [← hxs, ← hPLH.out]; rw [hEQ0H.out] at he; exact he
    rw [hPLH.out, hxs] at hd hrow1
    rw [if_neg (by rw [hE1]; simp)] at hEH
    generalize (putL m1 many b (List.range many) d).1 = dN at *
    obtain ⟨d2, e2, hy⟩ : ∃ d2 e2, dN.sync = (d2, e2) := ⟨_, _, rfl⟩
    rw [hy] at hEH
    have hsy := sync_is hd hrow1 hy
    have cl' := (hbl3.step hs hNT).cell
    obtain ⟨h0, -⟩ := hl.held.cells
    have hrl := lt_of_block hr
    have hKl := (Array.getElem?_eq_some_iff.1 hK).1
    clear he hy hE1 own hplain hd hxs
    gi_wp2_with (refine ⟨trivial, (callsIn_wide.2 hsy).mono ?_⟩; rintro e W8 ⟨v8, o8, rfl, hs8, rfl, hd8⟩
                 have hr8 : W8.heap[rb]? = _ := (hs8.block rb hrl (by rw [hro]; exact fun e => hX.2.2 e)).trans hr
                 have hro8 : o8 rb = (X, 0) := (hs8.own rb hrl).trans hro
                 have hK8 : W8.heap[D']? = _ := (hs8.block D' hKl (fun e => hKt (.inr (.inl e)))).trans hK
                 have fr8 := free_of_block hr8 0
                 have cr8 : W8.cell? ⟨rb, 0, none⟩ = some (.int .i64 0) := cell_of_one hr8
                 have hl8 := hl.step hs8 (fun e => hLD e) (fun e => hD e.symm)
                 have hset := (Step.refl (Only X) W8 o8).setCell (a := ⟨rb, 0, none⟩) (.int .i64 e2) (.inl (by show (o8 rb).1 = X; rw [hro8]))
                 have hr9 := heap_setCell_at (i := 0) (.int .i64 e2) hr8
                 simp only [List.set_cons_zero] at hr9
                 have hl9 := hl8.step hset (fun e => hX.2.1 e.symm) (fun e => hX.1 e.symm)
                 have hd9 := hd8.step hset (fun e => hX.2.2 e.symm)
                 have hK9 : (W8.setCell ⟨rb, 0, none⟩ (.int .i64 e2)).heap[D']? = _ := (Below.heap_setCell _ _ _ _ (by show D' ≠ rb; omega)).trans hK8
                 have hst9 := ((hs3.trans hs).trans (hs8.mono (fun k h => (.inr (.inl h) : Thr L D X k)))).trans (hset.mono (fun k h => (.inr (.inr h) : Thr L D X k)))
                 clear hsy hs8 hl8 hd8 hset hr8 hK8)
    have hoth : Others (W8.setCell ⟨rb, 0, none⟩ (.int .i64 e2)) (some D') := fun r e => by cases e; exact ⟨_, hK9, rfl⟩
    have hg := grownBy_putObj' (W8.setCell ⟨rb, 0, none⟩ (.int .i64 e2)) D' (.deferred none)
    have hc5 : ((W8.setCell ⟨rb, 0, none⟩ (.int .i64 e2)).putObj D' (.deferred none)).cell? ⟨rb, 0, none⟩ = some (.int .i64 e2) := hoth.cell hg (cell_of_one hr9)
    refine ⟨by simp, .inl ⟨_, _, rfl, run_takeDeferred hK9, ?_⟩⟩
    refine ⟨.int .i64 e2, ?_, ?_⟩
    · simp [results, Try.f85, go_sem, hc5]
    · rw [hEH.out]
      refine ⟨_, ext (W8.setCell ⟨rb, 0, none⟩ (.int .i64 e2)) o8, rfl, ?_, rfl, hl9.kept hoth hg, hd9.kept hoth hg⟩
      exact Step.thrIn (hst9.kept hg (fun r e => by cases e; have := hs3.size; omega)) hXf
  case stop =>
    rintro D' c pre W hD' ⟨k, hk, hk1, hpre⟩ ⟨rfl, o1, hs, hl, hd, he, hr, hro⟩ hK
    have hPk : PL pre = putL m1 many b (List.range many) d := by
      rw [hNE0H.out, hPLH.out, hpre] at he
      rw [hPLH.out, hpre, show List.range many = List.range k ++ (List.range (many - k)).map (k + ·) from by rw [← List.range_add]; congr 1; omega, putL_err _ _ _ _ _ _ he]
    have hEN : (putL m1 many b (List.range many) d).2 ≠ 0 := by rw [← hPk]; rw [hNE0H.out] at he; exact he
    rw [if_pos hEN] at hEH
    rw [hPk] at hd hr
    obtain ⟨dN, eN, hN1⟩ : ∃ dN eN, putL m1 many b (List.range many) d = (dN, eN) := ⟨_, _, rfl⟩
    rw [hN1] at hd hr hEH
    have hst9 := hs3.trans hs
    clear he hPk hEN own hpre hN1
    gi_wp2
    have hoth : Others W (some D') := fun r e => by cases e; exact ⟨_, hK, rfl⟩
    have hg := grownBy_putObj' W D' (.deferred none)
    have hc5 : (W.putObj D' (.deferred none)).cell? ⟨rb, 0, none⟩ = some (.int .i64 eN) := hoth.cell hg (cell_of_one hr)
    refine ⟨by simp, .inl ⟨_, _, rfl, run_takeDeferred hK, ?_⟩⟩
    refine ⟨.int .i64 eN, ?_, ?_⟩
    · simp [results, Try.f85, go_sem, hc5]
    · rw [hEH.out]
      refine ⟨_, ext W o1, rfl, ?_, rfl, hl.kept hoth hg, hd.kept hoth hg⟩
      exact Step.thrIn (hst9.kept hg (fun r e => by cases e; have := hs3.size; omega)) hXf
end
end Go.Proofs.YtfgggkheadfiaaaR
