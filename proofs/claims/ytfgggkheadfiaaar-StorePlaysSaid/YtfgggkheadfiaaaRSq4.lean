/- Contract: the third step of Commit: its leaves are written. -/
import Derived.Test.YtfgggkheadfiaaaRSq3
namespace Go.Proofs.YtfgggkheadfiaaaR
open Go Go.RowKit Go.Shelf
attribute [local go_sem] Oper.semAt_some

theorem Held.cells {w : World} {p pd : Nat} {m : LogM} (h : Held w p pd m) : w.cell? ⟨p, 0, none⟩ = some (.pointer (some ⟨pd, 0, none⟩)) ∧ w.cell? ⟨p, 1, none⟩ = some (.int .i64 (m.first : Int)) ∧ w.cell? ⟨p, 3, none⟩ = some (.int .u64 (m.stamp.toNat : Int)) ∧ w.cell? ⟨p, 5, none⟩ = some (.int .i64 (m.end' : Int)) :=
  ⟨h.1, h.2.1, h.2.2.2.1, h.2.2.2.2.2.1⟩
theorem Step.thrIn {L D X : Nat} {w w' : World} {o o' : Own} (h : Step (fun k => k = L ∨ k = D ∨ k = X) w o w' o') (hf : ∀ k, k < w.heap.size → (o k).1 ≠ X) : Step (In L D) w o w' o' :=
  ⟨h.os, h.tape, h.output, h.size, h.own, fun k hk ht => h.block k hk (by rintro (h1 | h1 | h1); exact ht (.inl h1); exact ht (.inr h1); exact hf k hk h1)⟩
def Thr (L D X : Nat) : Nat → Prop := fun k => k = L ∨ k = D ∨ k = X
section
variable {w : World} {o : Own} {L D p pd : Nat} {s : LogM × DiskM}
def capLe (v : Value) : Prop := ∀ a n c, v = .slice a n c → c ≤ 9223372036854775807
set_option maxRecDepth 100000 in
set_option maxHeartbeats 6400000 in
theorem step3_any (hL : L ≠ 0) (hD : D ≠ 0) (hLD : L ≠ D) (h : LD w o L D p pd s) (hrow : s.2.row.length ≤ 800000) (b : List UInt8) (bv : Value) (hb : Bytes w o bv b) (hcapb : capLe bv) (hroom : LogM.many b ≤ s.1.n - s.1.end') (hblen : b.length ≤ 960000) (bl bb bm : Nat) (hbl : Box w o bl 57 (.pointer (some ⟨p, 0, none⟩))) (hbb : Box w o bb 28 bv) (hbm : Box w o bm 3 (.int .i64 (LogM.many b : Int))) :
    Calls Try.prog 85 #[.pointer (some ⟨bl, 0, none⟩), .pointer (some ⟨bb, 0, none⟩), .pointer (some ⟨bm, 0, none⟩)] w (Ret (In L D) w o fun v w' o' => v = .int .i64 (LogM.step3 b s).2 ∧ LD w' o' L D p pd (LogM.step3 b s).1) := by
  obtain ⟨m, d⟩ := s
  obtain ⟨hlg, hdk⟩ := h
  simp only at hlg hdk hroom hrow
  obtain ⟨X, hXg, hXf⟩ := fresh_tag o w.heap.size (L + D)
  have hX : X ≠ 0 ∧ X ≠ L ∧ X ≠ D := by omega
  obtain ⟨g1, g2, g3, g4, g5, g6, g7⟩ := hlg.wf
  have hN : ¬ In L D 0 := fun h => by rcases h with h | h <;> omega
  have hNT : ¬ Thr L D X 0 := fun h => by rcases h with h | h | h <;> omega
  obtain ⟨many, hmanyE⟩ : ∃ many, LogM.many b = many := ⟨_, rfl⟩
  have hmany1 : 1 ≤ many := by rw [← hmanyE]; exact LogM.many_pos b
  have hmanyD : many = max 1 ((b.length + 479) / 480) := by rw [← hmanyE]; rfl
  have hmanyDH := hidden hmanyD
  have hmany2 : many ≤ 2000 := by rw [hmanyE] at hroom; omega
  obtain ⟨st, hst⟩ : ∃ st, m.stamp + 1#64 = st := ⟨_, rfl⟩
  have hwr := wrap_add1 m.stamp
  rw [hst] at hwr
  obtain ⟨m1, hm1⟩ : ∃ m1 : LogM, ({ m with stamp := st } : LogM) = m1 := ⟨_, rfl⟩
  -- the stamp, the result's variable, the box of cut
  obtain ⟨rv, vs, ⟨c0, c1, c2, c3, c4, c5, c6, c7⟩, hf, -⟩ := hlg.open
  have f3 := hf 3
  have cl1 := hbl.cell
  have cb1 := hbb.cell
  have hplt : p < w.heap.size := hlg.lt
  have hl1 := hlg.set (m' := m1) hL 3 (.int .u64 (st.toNat : Int)) (fun rv => by rw [← hm1]; rfl) (by rw [← hm1]) (by rw [← hm1]; exact LogM.wf_stamp hlg.wf _)
  have hs1L := hlg.setStep 3 (.int .u64 (st.toNat : Int))
  have hd1 := hdk.step hs1L (fun e => hLD e.symm)
  have hb1 := hb.step hs1L (fun e => hL e.symm)
  have hbl1 := hbl.step hs1L (fun e => hL e.symm)
  have hbb1 := hbb.step hs1L (fun e => hL e.symm)
  have hbm1 := hbm.step hs1L (fun e => hL e.symm)
  have hsz1 : (w.setCell ⟨p, 3, none⟩ (.int .u64 (st.toNat : Int))).heap.size = w.heap.size := by simp
  have hs2n := (Step.refl Nobody (w.setCell ⟨p, 3, none⟩ (.int .u64 (st.toNat : Int))) o).alloc (.cells #[.int .i64 0] 23) (X, 0)
  have hr2 : ((w.setCell ⟨p, 3, none⟩ (.int .u64 (st.toNat : Int))).alloc (.cells #[.int .i64 0] 23)).heap[w.heap.size]? = some (.cells #[.int .i64 0] 23 (0, 0)) := by rw [← hsz1]; exact heap_alloc_new _ _
  have hro2 : tagAt o (w.setCell ⟨p, 3, none⟩ (.int .u64 (st.toNat : Int))).heap.size (X, 0) w.heap.size = (X, 0) := by rw [hsz1]; exact tagAt_same _ _ _
  have hs3n := (Step.refl Nobody ((w.setCell ⟨p, 3, none⟩ (.int .u64 (st.toNat : Int))).alloc (.cells #[.int .i64 0] 23)) (tagAt o (w.setCell ⟨p, 3, none⟩ (.int .u64 (st.toNat : Int))).heap.size (X, 0))).alloc (.cells #[bv] 28) (0, 0)
  have hbx := Box.new ((w.setCell ⟨p, 3, none⟩ (.int .u64 (st.toNat : Int))).alloc (.cells #[.int .i64 0] 23)) (tagAt o (w.setCell ⟨p, 3, none⟩ (.int .u64 (st.toNat : Int))).heap.size (X, 0)) 28 bv
  have hsz2 : ((w.setCell ⟨p, 3, none⟩ (.int .u64 (st.toNat : Int))).alloc (.cells #[.int .i64 0] 23)).heap.size = w.heap.size + 1 := by simp
  have hl3 := (hl1.step hs2n (fun h => h) (fun h => h)).step hs3n (fun h => h) (fun h => h)
  have hd3 := (hd1.step hs2n (fun h => h)).step hs3n (fun h => h)
  have hb3 := (hb1.step hs2n (fun h => h)).step hs3n (fun h => h)
  have hbl3 := (hbl1.step hs2n (fun h => h)).step hs3n (fun h => h)
  have hbm3 := (hbm1.step hs2n (fun h => h)).step hs3n (fun h => h)
  have hrw2 := lt_of_block hr2
  have hr3 := (hs3n.block w.heap.size hrw2 (fun h => h)).trans hr2
  have hro3 := (hs3n.own w.heap.size hrw2).trans hro2
  have hs3 : Step (Thr L D X) w o _ _ := ((hs1L.mono (fun k h => (.inl h : Thr L D X k))).trans (hs2n.mono (fun k h => h.elim))).trans (hs3n.mono (fun k h => h.elim))
  have hbllt := lt_of_block hbl.1
  have hbblt := lt_of_block hbb.1
  have cl1a : (w.alloc (.cells #[.int .i64 0] 23)).cell? ⟨bl, 0, none⟩ = some (.pointer (some ⟨p, 0, none⟩)) := by rw [World.cell?_alloc_lt _ _ _ hbllt]; exact cl1
  have c3a : (w.alloc (.cells #[.int .i64 0] 23)).cell? ⟨p, 3, none⟩ = some (.int .u64 (m.stamp.toNat : Int)) := by rw [World.cell?_alloc_lt _ _ _ hplt]; exact c3
  have f3a : (w.alloc (.cells #[.int .i64 0] 23)).frozen? ⟨p, 3, none⟩ = false := by rw [World.frozen?_of_block (w := w) (a := ⟨p, 3, none⟩) (Below.heap_alloc _ _ _ hplt)]; exact f3
  have cb1a : ((w.setCell ⟨p, 3, none⟩ (.int .u64 (st.toNat : Int))).alloc (.cells #[.int .i64 0] 23)).cell? ⟨bb, 0, none⟩ = some bv := by rw [World.cell?_alloc_lt _ _ _ (by simpa using hbblt), World.cell?_setCell_other _ _ _ _ (by simp)]; exact cb1
  clear cl1 c3 f3 cb1
  obtain ⟨ba, bc, hbv⟩ := slc_form hb
  have hfirst : m1.first = m.first := by rw [← hm1]
  have hend : m1.end' = m.end' := by rw [← hm1]
  have hstm : m1.stamp = st := by rw [← hm1]
  have hE : LogM.step3 b (m, d) = if (putL m1 many b (List.range many) d).2 ≠ 0 then ((m1, (putL m1 many b (List.range many) d).1), (putL m1 many b (List.range many) d).2) else ((m1, (putL m1 many b (List.range many) d).1.sync.1), (putL m1 many b (List.range many) d).1.sync.2) := by
    unfold LogM.step3
    simp only [hst, hm1, hmanyE, put_eq, ← List.range_eq_range']
  have hEH := hidden hE
  have hm1H := hidden hm1
  have hfirstH := hidden hfirst
  have hendH := hidden hend
  have hpsome : ∀ {a : Option Addr} {c : Nat}, bv = .slice a b.length c → (480 < b.length → ∃ b' off', a = some ⟨b', off', none⟩) ∧ b.length ≤ c ∧ c ≤ 9223372036854775807 := by
    intro a c hv
    rcases hb.cases with ⟨⟨a', c', hv'⟩, hnil⟩ | ⟨b', off', cap', hv', h1, h2, _⟩
    · exact ⟨fun h => by rw [hnil] at h; simp at h, by rw [hnil]; simp, hcapb _ _ _ hv⟩
    · rw [hv'] at hv
      simp only [Value.slice.injEq] at hv
      obtain ⟨rfl, _, rfl⟩ := hv
      exact ⟨fun _ => ⟨_, _, rfl⟩, h1, by simp only [maxLen] at h2; omega⟩
  rw [hmanyE] at hbm3
  rw [hsz2] at hbx
  clear hE hm1 hfirst hend hs1L hl1 hd1 hb1 hbl1 hbb1 hbm1 hlg hdk hmanyD hbl hbb hbm c0 c1 c2 c4 c5 c6 c7 hf hst hroom hs2n hr2 hro2 hs3n hb
  subst hbv
  obtain ⟨hsm, hcp, hcm⟩ := hpsome rfl
  clear hpsome
  refine (callsIn_wide (n := 9)).1 ?_
  refine callsIn_of_wp_marks Try.func85 rfl trivial ?_ rfl
  simp only [Try.ntmps85, List.size_toArray, List.length_cons, List.length_nil, Nat.reduceAdd, Nat.reduceSub, Array.replicate_succ, Array.replicate_zero, List.push_toArray, List.append_toArray, List.nil_append, List.cons_append]
  gi_wp2_with (refine ⟨trivial, (callsIn_wide.2 (cut_any _ _ _ _)).mono ?_⟩; rintro e w' ⟨rfl, rfl⟩)
  clear cl1a c3a f3a cb1a hwr
  generalize hW3 : ((w.setCell ⟨p, 3, none⟩ (.int .u64 (st.toNat : Int))).alloc (.cells #[.int .i64 0] 23)).alloc (.cells #[.slice ba b.length bc] 28) = W0 at *
  rw [hsz2] at hs3 hl3 hd3 hb3 hbl3 hbm3 hro3
  generalize ho3 : tagAt (tagAt o (w.setCell ⟨p, 3, none⟩ (.int .u64 (st.toNat : Int))).heap.size (X, 0)) (w.heap.size + 1) (0, 0) = o0 at *
  clear hW3 ho3 hsz1 hsz2
  obtain ⟨rb, hrb⟩ : ∃ rb, w.heap.size = rb := ⟨_, rfl⟩
  rw [hrb] at hr3 hro3 hbx ⊢
  have hrbge : w.heap.size ≤ rb := by omega
  clear hrb
  have hrb0 : rb < W0.heap.size := lt_of_block hr3
  obtain ⟨pv, hpv⟩ : ∃ pv : Nat → Value, ∀ x, partV (.slice ba b.length bc) x = pv x := ⟨_, fun _ => rfl⟩
  have hpart : ∀ x, x < many → Bytes W0 o0 (pv x) (LogM.part b x) := fun x hx => by rw [← hpv]; exact part_bytes hb3 x (by rw [hmanyE]; exact hx)
  have hpartH := hidden hpart
  have hpvH := hidden hpv
  clear hpart hpv hb3 hmanyE
  obtain ⟨PL, hPL⟩ : ∃ PL : List (Fin many) → DiskM × Int, ∀ pre, PL pre = putL m1 many b (pre.map (·.val)) d := ⟨_, fun _ => rfl⟩
  have hPLH := hidden hPL
  clear hPL
  have own : ∀ (e : Int → Prop) (val : List (Fin many) → Int), OwnFrom W0.heap.size (fun pre W => ∃ o', Step (Thr L D X) W0 o0 W o' ∧ LogAt W o' L p pd m1 ∧ DiskAt W o' D pd (PL pre).1 ∧ e (PL pre).2 ∧ W.heap[rb]? = some (.cells #[.int .i64 (val pre)] 23 (0, 0)) ∧ o' rb = (X, 0)) := by
    rintro e val pre A A' row ⟨o', hs, hl, hd, he, hr, hro⟩ hg hrow
    have hoth : Others A row := fun r e => (hrow r e).2
    exact ⟨ext A o', hs.kept hg (fun r e => (hrow r e).1), hl.kept hoth hg, hd.kept hoth hg, he, hoth.same hg hr, by unfold ext; rw [if_pos (lt_of_block hr)]; exact hro⟩
  obtain ⟨EQ0, hEQ0⟩ : ∃ EQ0 : Int → Prop, ∀ e, EQ0 e = (e = 0) := ⟨_, fun _ => rfl⟩
  obtain ⟨NE0, hNE0⟩ : ∃ NE0 : Int → Prop, ∀ e, NE0 e = (e ≠ 0) := ⟨_, fun _ => rfl⟩
  have hEQ0H := hidden hEQ0
  have hNE0H := hidden hNE0
  clear hEQ0 hNE0
  refine wpIn_rangeFunc_ownG (α := Fin many) rfl (by omega) (gf := 116) (lb := #[.pointer (some ⟨rb + 1, 0, none⟩)]) rfl trivial (enters_of Try.func116 (by kernel_rfl) rfl)
    (cut_stops 8 (by omega) (rb + 1) ba b.length bc hsm hcp hcm (by omega) many hmanyDH.out W0 hbx.1) (fun h k => k.trans h) (fun W l ob o' hl hk hc _ => ?hkb) (Below.refl _ _) (fun _ => rfl)
    (fun pre W => ∃ o', Step (Thr L D X) W0 o0 W o' ∧ LogAt W o' L p pd m1 ∧ DiskAt W o' D pd (PL pre).1 ∧ EQ0 (PL pre).2 ∧ W.heap[rb]? = some (.cells #[.int .i64 0] 23 (0, 0)) ∧ o' rb = (X, 0))
    (fun c pre W => c = .ret ∧ ∃ o', Step (Thr L D X) W0 o0 W o' ∧ LogAt W o' L p pd m1 ∧ DiskAt W o' D pd (PL pre).1 ∧ NE0 (PL pre).2 ∧ W.heap[rb]? = some (.cells #[.int .i64 (PL pre).2] 23 (0, 0)) ∧ o' rb = (X, 0))
    (own EQ0 (fun _ => 0)) (fun c pre A A' row h hg hr => ⟨h.1, own NE0 (fun pre => (PL pre).2) pre A A' row h.2 hg hr⟩)
    ⟨o0, Step.refl _ _ _, hl3, by rw [hPLH.out]; exact hd3, by rw [hPLH.out, hEQ0H.out]; rfl, hr3, hro3⟩
    (fun x => { tmps := #[.pointer (some ⟨bl, 0, none⟩), .pointer (some ⟨bb, 0, none⟩), .pointer (some ⟨bm, 0, none⟩), .pointer (some ⟨rb, 0, none⟩), .int .i64 (x.val : Int), pv x.val, undef, .pointer (some ⟨p, 0, none⟩), .pointer (some ⟨p, 0, none⟩), .pointer (some ⟨p, 3, none⟩), .int .u64 (m.stamp.toNat : Int), .int .u64 (st.toNat : Int), .pointer (some ⟨p, 0, none⟩), .pointer (some ⟨p, 3, none⟩), .slice ba b.length bc, .func (.func 116) #[] #[.pointer (some ⟨rb + 1, 0, none⟩)], .int .i64 (x.val : Int), pv x.val, undef, undef, undef, undef, undef, undef, undef, undef, undef, undef, undef, undef, undef, undef, undef, undef, undef, undef, undef, undef, undef, undef, undef, undef, undef, undef, undef, undef, undef, undef, undef, undef, undef], defers := [] }) ?assign ?body ?done ?stop
  case hkb =>
    show (W.putObj l o').heap[rb + 1]? = W.heap[rb + 1]?
    exact World.putObj_heap_other (by have := lt_of_block hbx.1; omega)
  case assign =>
    intro l x W K hK
    simp only [hpvH.out]
    gi_wp2
    exact hK
  case body =>
    rintro l pre x W ⟨o1, hs, hl, hd, he, hr, hro⟩ hlen
    have hplain := plainify_plain (B := W0.heap.size) (W := W) (o := o1) (Thr L D X) hNT
    replace hs := hs.plainify (B := W0.heap.size) (Nat.le_refl _)
    replace hl := hl.plainify (B := W0.heap.size)
    replace hd := hd.plainify (B := W0.heap.size)
    replace hro : plainify W0.heap.size W o1 rb = (X, 0) := by rw [plainify_cells hr]; exact hro
    generalize plainify W0.heap.size W o1 = o2 at *
    clear o1
    have bl' := hbl3.step hs hNT
    have bm' := hbm3.step hs hNT
    have bx' := hbx.step hs hNT
    obtain ⟨x, hx⟩ := x
    have hpb := (hpartH.out x hx).step hs hNT
    have hrowd : (PL pre).1.row.length ≤ 900000 := by
      rw [hPLH.out]
      have := putL_row m1 many b (pre.map (·.val)) d
      rw [List.length_map] at this; omega
    have hsnoc : PL (pre ++ [⟨x, hx⟩]) = (PL pre).1.write ((m1.first + m1.end' + x : Nat) : Int) (LeafM.page ⟨m1.stamp, x, many, LogM.part b x⟩) := by
      rw [hPLH.out, hPLH.out, List.map_append, List.map_cons, List.map_nil, putL_snoc, ← hPLH.out, if_neg (by rw [hEQ0H.out] at he; omega)]
    have hplen := LogM.length_part b x
    obtain ⟨pb, hpbE⟩ : ∃ pb, LogM.part b x = pb := ⟨_, rfl⟩
    rw [hpbE] at hpb hsnoc hplen
    clear hpbE
    generalize hdd1 : (PL pre).1 = d1 at *
    clear hdd1
    rw [hstm] at hsnoc
    obtain ⟨d2, e2, hw⟩ : ∃ d2 e2, d1.write ((m1.first + m1.end' + x : Nat) : Int) (LeafM.page ⟨st, x, many, pb⟩) = (d2, e2) := ⟨_, _, rfl⟩
    rw [hw] at hsnoc
    have hsnocH := hidden hsnoc
    have hwH := hidden hw
    obtain ⟨pa, pc, hpvf⟩ := slc_form hpb
    have hheld := hl.held.cells
    obtain ⟨w1, w2, w3, w4, w5, -⟩ := hl.wf
    have hS0 : W.cell? ⟨bl, 0, none⟩ = some (.pointer (some ⟨p, 0, none⟩)) ∧ W.cell? ⟨bm, 0, none⟩ = some (.int .i64 (many : Int)) ∧ W.cell? ⟨p, 0, none⟩ = some (.pointer (some ⟨pd, 0, none⟩)) ∧ W.cell? ⟨p, 1, none⟩ = some (.int .i64 (m1.first : Int)) ∧ W.cell? ⟨p, 3, none⟩ = some (.int .u64 (m1.stamp.toNat : Int)) ∧ W.cell? ⟨p, 5, none⟩ = some (.int .i64 (m1.end' : Int)) := ⟨bl'.cell, bm'.cell, hheld⟩
    have i1 : (m1.first : Int) ≤ 4096 := by omega
    have i2 : (m1.end' : Int) ≤ 2000 := by omega
    have i3 : (x : Int) ≤ 2000 := by omega
    clear hsnoc hw he hheld w1 w2 w3 w4 w5 own hlen
    rw [hpvf] at hpb ⊢
    clear hpvf
    gi_wp2
    refine wp_region_round (fun w' => w'.cell? ⟨bl, 0, none⟩ = some (.pointer (some ⟨p, 0, none⟩)) ∧ w'.cell? ⟨bm, 0, none⟩ = some (.int .i64 (many : Int)) ∧ w'.cell? ⟨p, 0, none⟩ = some (.pointer (some ⟨pd, 0, none⟩)) ∧ w'.cell? ⟨p, 1, none⟩ = some (.int .i64 (m1.first : Int)) ∧ w'.cell? ⟨p, 3, none⟩ = some (.int .u64 (m1.stamp.toNat : Int)) ∧ w'.cell? ⟨p, 5, none⟩ = some (.int .i64 (m1.end' : Int))) (fun _ => true) (by kernel_rfl) (by kernel_rfl) (fun ⟨_, _, h⟩ => h) hS0 (fun hHeld => ?_)
    refine wpAnyN_tk (i := 0) (v := ?_) rfl (by kernel_rfl) (fun _ _ _ h => h) (Or.inl ⟨by rfl, ?_⟩) (by assumption) ?_
    rotate_left
    · intro w hSw; ((try dsimp only at hSw); go_simp; (try with_reducible rfl))
    simp only [Act.put, List.setIfInBounds_toArray, List.set_cons_zero, List.set_cons_succ]
    refine wpAnyN_tk (i := 1) (v := ?_) rfl (by kernel_rfl) (fun _ _ _ h => h) (Or.inl ⟨by rfl, ?_⟩) (by assumption) ?_
    rotate_left
    · intro w hSw; ((try dsimp only at hSw); go_simp; (try with_reducible rfl))
    simp only [Act.put, List.setIfInBounds_toArray, List.set_cons_zero, List.set_cons_succ]
    refine wpAnyN_tk (i := 2) (v := ?_) rfl (by kernel_rfl) (fun _ _ _ h => h) (Or.inl ⟨by rfl, ?_⟩) (by assumption) ?_
    rotate_left
    · intro w hSw; ((try dsimp only at hSw); go_simp; (try with_reducible rfl))
    simp only [Act.put, List.setIfInBounds_toArray, List.set_cons_zero, List.set_cons_succ]
    refine wpAnyN_tk (i := 3) (v := ?_) rfl (by kernel_rfl) (fun _ _ _ h => h) (Or.inl ⟨by rfl, ?_⟩) (by assumption) ?_
    rotate_left
    · intro w hSw; ((try dsimp only at hSw); go_simp; (try with_reducible rfl))
    simp only [Act.put, List.setIfInBounds_toArray, List.set_cons_zero, List.set_cons_succ]
    refine wpAnyN_tk (i := 4) (v := ?_) rfl (by kernel_rfl) (fun _ _ _ h => h) (Or.inl ⟨by rfl, ?_⟩) (by assumption) ?_
    rotate_left
    · intro w hSw; ((try dsimp only at hSw); go_simp; (try with_reducible rfl))
    simp only [Act.put, List.setIfInBounds_toArray, List.set_cons_zero, List.set_cons_succ]
    refine wpAnyN_tk (i := 5) (v := ?_) rfl (by kernel_rfl) (fun _ _ _ h => h) (Or.inl ⟨by rfl, ?_⟩) (by assumption) ?_
    rotate_left
    · intro w hSw; ((try dsimp only at hSw); go_simp; (try with_reducible rfl))
    simp only [Act.put, List.setIfInBounds_toArray, List.set_cons_zero, List.set_cons_succ]
    refine wpAnyN_tk (i := 6) (v := ?_) rfl (by kernel_rfl) (fun _ _ _ h => h) (Or.inl ⟨by rfl, ?_⟩) (by assumption) ?_
    rotate_left
    · intro w hSw; ((try dsimp only at hSw); go_simp; (try with_reducible rfl))
    simp only [Act.put, List.setIfInBounds_toArray, List.set_cons_zero, List.set_cons_succ]
    refine wpAnyN_tk (i := 7) (v := ?_) rfl (by kernel_rfl) (fun _ _ _ h => h) (Or.inl ⟨by rfl, ?_⟩) (by assumption) ?_
    rotate_left
    · intro w hSw; ((try dsimp only at hSw); go_simp; (try with_reducible rfl))
    simp only [Act.put, List.setIfInBounds_toArray, List.set_cons_zero, List.set_cons_succ]
    refine wpAnyN_tk (i := 8) (v := ?_) rfl (by kernel_rfl) (fun _ _ _ h => h) (Or.inl ⟨by rfl, ?_⟩) (by assumption) ?_
    rotate_left
    · intro w hSw; ((try dsimp only at hSw); go_simp; (try with_reducible rfl))
    simp only [Act.put, List.setIfInBounds_toArray, List.set_cons_zero, List.set_cons_succ]
    refine wpAnyN_tk (i := 9) (v := ?_) rfl (by kernel_rfl) (fun _ _ _ h => h) (Or.inl ⟨by rfl, ?_⟩) (by assumption) ?_
    rotate_left
    · intro w hSw; ((try dsimp only at hSw); go_simp; (try with_reducible rfl))
    simp only [Act.put, List.setIfInBounds_toArray, List.set_cons_zero, List.set_cons_succ]
    refine wpAnyN_tk (i := 10) (v := ?_) rfl (by kernel_rfl) (fun _ _ _ h => h) (Or.inl ⟨by rfl, ?_⟩) (by assumption) ?_
    rotate_left
    · intro w hSw; ((try dsimp only at hSw); go_simp; (try with_reducible rfl))
    simp only [Act.put, List.setIfInBounds_toArray, List.set_cons_zero, List.set_cons_succ]
    refine wpAnyN_tk (i := 11) (v := ?_) rfl (by kernel_rfl) (fun _ _ _ h => h) (Or.inl ⟨by rfl, ?_⟩) (by assumption) ?_
    rotate_left
    · intro w hSw; ((try dsimp only at hSw); go_simp; (try with_reducible rfl))
    simp only [Act.put, List.setIfInBounds_toArray, List.set_cons_zero, List.set_cons_succ]
    refine wpAnyN_tk (i := 12) (v := ?_) rfl (by kernel_rfl) (fun _ _ _ h => h) (Or.inl ⟨by rfl, ?_⟩) (by assumption) ?_
    rotate_left
    · intro w hSw; ((try dsimp only at hSw); go_simp; (try with_reducible rfl))
    simp only [Act.put, List.setIfInBounds_toArray, List.set_cons_zero, List.set_cons_succ]
    refine wpAnyN_tk (i := 13) (v := ?_) rfl (by kernel_rfl) (fun _ _ _ h => h) (Or.inl ⟨by rfl, ?_⟩) (by assumption) ?_
    rotate_left
    · intro w hSw; ((try dsimp only at hSw); go_simp; (try with_reducible rfl))
    simp only [Act.put, List.setIfInBounds_toArray, List.set_cons_zero, List.set_cons_succ]
    refine wpAnyN_tk (i := 14) (v := ?_) rfl (by kernel_rfl) (fun _ _ _ h => h) (Or.inl ⟨by rfl, ?_⟩) (by assumption) ?_
    rotate_left
    · intro w hSw; ((try dsimp only at hSw); go_simp; (try with_reducible rfl))
    simp only [Act.put, List.setIfInBounds_toArray, List.set_cons_zero, List.set_cons_succ]
    refine wpAnyN_tk (i := 15) (v := ?_) rfl (by kernel_rfl) (fun _ _ _ h => h) (Or.inl ⟨by rfl, ?_⟩) (by assumption) ?_
    rotate_left
    · intro w hSw; ((try dsimp only at hSw); go_simp; (try with_reducible rfl))
    simp only [Act.put, List.setIfInBounds_toArray, List.set_cons_zero, List.set_cons_succ]
    refine wpAnyN_tk (i := 16) (v := ?_) rfl (by kernel_rfl) (fun _ _ _ h => h) (Or.inl ⟨by rfl, ?_⟩) (by assumption) ?_
    rotate_left
    · intro w hSw; ((try dsimp only at hSw); go_simp; (try with_reducible rfl))
    simp only [Act.put, List.setIfInBounds_toArray, List.set_cons_zero, List.set_cons_succ]
    refine wpAnyN_tk (i := 17) (v := ?_) rfl (by kernel_rfl) (fun _ _ _ h => h) (Or.inl ⟨by rfl, ?_⟩) (by assumption) ?_
    rotate_left
    · intro w hSw; ((try dsimp only at hSw); go_simp; (try with_reducible rfl))
    simp only [Act.put, List.setIfInBounds_toArray, List.set_cons_zero, List.set_cons_succ]
    refine wpAnyN_tk (i := 18) (v := ?_) rfl (by kernel_rfl) (fun _ _ _ h => h) (Or.inl ⟨by rfl, ?_⟩) (by assumption) ?_
    rotate_left
    · intro w hSw; ((try dsimp only at hSw); go_simp; (try with_reducible rfl))
    simp only [Act.put, List.setIfInBounds_toArray, List.set_cons_zero, List.set_cons_succ]
    refine wpAnyN_tk (i := 19) (v := ?_) rfl (by kernel_rfl) (fun _ _ _ h => h) (Or.inl ⟨by rfl, ?_⟩) (by assumption) ?_
    rotate_left
    · intro w hSw; ((try dsimp only at hSw); go_simp; (try with_reducible rfl))
    simp only [Act.put, List.setIfInBounds_toArray, List.set_cons_zero, List.set_cons_succ]
    refine wpAnyN_tk (i := 20) (v := ?_) rfl (by kernel_rfl) (fun _ _ _ h => h) (Or.inl ⟨by rfl, ?_⟩) (by assumption) ?_
    rotate_left
    · intro w hSw; ((try dsimp only at hSw); go_simp; (try with_reducible rfl))
    simp only [Act.put, List.setIfInBounds_toArray, List.set_cons_zero, List.set_cons_succ]
    refine wpAnyN_tk (i := 21) (v := ?_) rfl (by kernel_rfl) (fun _ _ _ h => h) (Or.inl ⟨by rfl, ?_⟩) (by assumption) ?_
    rotate_left
    · intro w hSw; ((try dsimp only at hSw); go_simp; (try with_reducible rfl))
    simp only [Act.put, List.setIfInBounds_toArray, List.set_cons_zero, List.set_cons_succ]
    refine wpAnyN_tk (i := 22) (v := ?_) rfl (by kernel_rfl) (fun _ _ _ h => h) (Or.inl ⟨by rfl, ?_⟩) (by assumption) ?_
    rotate_left
    · intro w hSw; ((try dsimp only at hSw); go_simp; (try with_reducible rfl))
    simp only [Act.put, List.setIfInBounds_toArray, List.set_cons_zero, List.set_cons_succ]
    rw [wrap_i64 (n := (m1.first : Int) + (m1.end' : Int)) (by omega) (by omega), wrap_i64 (n := (m1.first : Int) + (m1.end' : Int) + (x : Int)) (by omega) (by omega), show (m1.first : Int) + (m1.end' : Int) + (x : Int) = ((m1.first + m1.end' + x : Nat) : Int) from by omega]
    obtain ⟨at', hat⟩ : ∃ at' : Int, ((m1.first + m1.end' + x : Nat) : Int) = at' := ⟨_, rfl⟩
    rw [hat]
    have hw := hwH.out
    rw [hat] at hw
    clear hat hwH
    have hdr : Step Nobody W o2 W.drew o2 := (Step.refl _ _ _).drew
    have hl2 := hl.step hdr (fun h => h) (fun h => h)
    have hd2 := hd.step hdr (fun h => h)
    have hpb2 := hpb.step hdr (fun h => h)
    have hpage := page_any (w := W.drew) (o := o2) (bv := .slice pa pb.length pc) ⟨st, x, many, pb⟩ hpb2 hplen (by show x ≤ 1000000; omega) (by show many ≤ 1000000; omega)
    have kbl := lt_of_block bl'.1
    have kbm := lt_of_block bm'.1
    have kpl := hl.lt
    have keep : ∀ {A A' : World} {oa oa' : Own}, Step (Only D) A oa A' oa' → W.heap.size ≤ A.heap.size → (∀ k, k < W.heap.size → oa k = o2 k) → (A.cell? ⟨bl, 0, none⟩ = some (.pointer (some ⟨p, 0, none⟩)) ∧ A.cell? ⟨bm, 0, none⟩ = some (.int .i64 (many : Int)) ∧ A.cell? ⟨p, 0, none⟩ = some (.pointer (some ⟨pd, 0, none⟩)) ∧ A.cell? ⟨p, 1, none⟩ = some (.int .i64 (m1.first : Int)) ∧ A.cell? ⟨p, 3, none⟩ = some (.int .u64 (m1.stamp.toNat : Int)) ∧ A.cell? ⟨p, 5, none⟩ = some (.int .i64 (m1.end' : Int))) → (A'.cell? ⟨bl, 0, none⟩ = some (.pointer (some ⟨p, 0, none⟩)) ∧ A'.cell? ⟨bm, 0, none⟩ = some (.int .i64 (many : Int)) ∧ A'.cell? ⟨p, 0, none⟩ = some (.pointer (some ⟨pd, 0, none⟩)) ∧ A'.cell? ⟨p, 1, none⟩ = some (.int .i64 (m1.first : Int)) ∧ A'.cell? ⟨p, 3, none⟩ = some (.int .u64 (m1.stamp.toNat : Int)) ∧ A'.cell? ⟨p, 5, none⟩ = some (.int .i64 (m1.end' : Int))) := fun hs hle ho h => by
      have e1 := hs.block bl (by omega) (by rw [ho bl kbl, bl'.2]; exact fun e => hD e.symm)
      have e2 := hs.block bm (by omega) (by rw [ho bm kbm, bm'.2]; exact fun e => hD e.symm)
      have e3 := hs.block p (by omega) (by rw [ho p kpl, hl.ofL]; exact fun e => hLD e)
      exact ⟨(World.cell?_of_block (a := ⟨bl, 0, none⟩) e1).trans h.1, (World.cell?_of_block (a := ⟨bm, 0, none⟩) e2).trans h.2.1, (World.cell?_of_block (a := ⟨p, 0, none⟩) e3).trans h.2.2.1, (World.cell?_of_block (a := ⟨p, 1, none⟩) e3).trans h.2.2.2.1, (World.cell?_of_block (a := ⟨p, 3, none⟩) e3).trans h.2.2.2.2.1, (World.cell?_of_block (a := ⟨p, 5, none⟩) e3).trans h.2.2.2.2.2⟩
    refine wpAnyN_one (i := 23) rfl (by kernel_rfl) ?_
    go_wp2_with fail
    refine hpage.mono ?_; rintro e W6 ⟨v6, o6, rfl, hs6, hn6⟩
    have hS6 := keep (hs6.only D) (Nat.le_refl _) (fun _ _ => rfl) hHeld
    have hl6 := hl2.step hs6 (fun h => h) (fun h => h)
    have hd6 := hd2.step hs6 (fun h => h)
    have hp6 := hn6.bytes
    have hst6 : Step (In L D) W o2 W6 o6 := hdr.in0.trans hs6.in0
    have hwr := write_is hd6 hD (by omega) at' v6 _ hp6 hw
    clear hpage hn6 hl2 hd2 hdr hpb hpb2
    go_wp2_with fail
    refine ⟨fun _ => hS6, ?_⟩
    refine wpAnyN_one (i := 24) rfl (by kernel_rfl) ?_
    go_wp2_with fail
    refine hwr.mono ?_; rintro e W7 ⟨v7, o7, rfl, hs7, rfl, hd7⟩
    have hsz6 : W.heap.size ≤ W6.heap.size := hst6.size
    have hS7 := keep hs7 hsz6 (fun k hk => hst6.own k hk) hS6
    have hl7 := hl6.step hs7 (fun e => hLD e) (fun e => hD e.symm)
    have hst7 : Step (In L D) W o2 W7 o7 := hst6.trans hs7.inD
    clear hwr hl6 hd6 hs6 hs7 hp6 hst6 hHeld keep
    go_wp2_with fail
    refine ⟨fun _ => hS7, ?_⟩
    refine wpAnyN_one (i := 25) rfl (by kernel_rfl) ?_
    go_wp2_with fail
    refine ⟨fun _ => hS7, ?_⟩
    refine wpAnyN_done (by kernel_rfl) ?_ _
    have hrX : ¬ In L D (o2 rb).1 := by rw [hro]; rintro (h | h); exact hX.2.1 h; exact hX.2.2 h
    have hrl := lt_of_block hr
    have hr7 : W7.heap[rb]? = some (.cells #[.int .i64 0] 23 (0, 0)) := (hst7.block rb hrl hrX).trans hr
    have hro7 : o7 rb = (X, 0) := (hst7.own rb hrl).trans hro
    have hstT : Step (Thr L D X) W o2 W7 o7 := hst7.mono (fun k h => by rcases h with h | h; exact .inl h; exact .inr (.inl h))
    have hbx7 : W7.heap[rb + 1]? = W.heap[rb + 1]? := hst7.block (rb + 1) (lt_of_block bx'.1) (by rw [bx'.2]; exact hN)
    by_cases he2 : e2 = 0
    · have hI : ∃ o', Step (Thr L D X) W0 o0 W7 o' ∧ LogAt W7 o' L p pd m1 ∧ DiskAt W7 o' D pd (PL (pre ++ [⟨x, hx⟩])).1 ∧ EQ0 (PL (pre ++ [⟨x, hx⟩])).2 ∧ W7.heap[rb]? = some (.cells #[.int .i64 0] 23 (0, 0)) ∧ o' rb = (X, 0) :=
        ⟨o7, hs.trans hstT, hl7, by rw [hsnocH.out]; exact hd7, by rw [hsnocH.out, hEQ0H.out]; exact he2, hr7, hro7⟩
      have hIH := hidden hI
      have hKFH := hidden (hplain.keeps hstT)
      subst he2
      clear hI hS7 hS6 hl7 hd7
      gi_wp2
      exact ⟨hKFH.out, hbx7, hIH.out⟩
    · have hne : (e2 != 0) = true := by simpa using he2
      have fr7 := free_of_block hr7 0
      have cr7 : W7.cell? ⟨rb, 0, none⟩ = some (.int .i64 0) := cell_of_one hr7
      have hset := (Step.refl (Only X) W7 o7).setCell (a := ⟨rb, 0, none⟩) (.int .i64 e2) (.inl (by show (o7 rb).1 = X; rw [hro7]))
      have hsetT : Step (Thr L D X) W7 o7 _ o7 := hset.mono (fun k h => (.inr (.inr h) : Thr L D X k))
      have hr8 := heap_setCell_at (i := 0) (.int .i64 e2) hr7
      simp only [List.set_cons_zero] at hr8
      have hI : ∃ o', Step (Thr L D X) W0 o0 (W7.setCell ⟨rb, 0, none⟩ (.int .i64 e2)) o' ∧ LogAt (W7.setCell ⟨rb, 0, none⟩ (.int .i64 e2)) o' L p pd m1 ∧ DiskAt (W7.setCell ⟨rb, 0, none⟩ (.int .i64 e2)) o' D pd (PL (pre ++ [⟨x, hx⟩])).1 ∧ NE0 (PL (pre ++ [⟨x, hx⟩])).2 ∧ (W7.setCell ⟨rb, 0, none⟩ (.int .i64 e2)).heap[rb]? = some (.cells #[.int .i64 (PL (pre ++ [⟨x, hx⟩])).2] 23 (0, 0)) ∧ o' rb = (X, 0) :=
        ⟨o7, (hs.trans hstT).trans hsetT, hl7.step hset (fun e => hX.2.1 e.symm) (fun e => hX.1 e.symm), by rw [hsnocH.out]; exact hd7.step hset (fun e => hX.2.2 e.symm), by rw [hsnocH.out, hNE0H.out]; exact he2, by rw [hsnocH.out]; exact hr8, hro7⟩
      have hIH := hidden hI
      have hKFH := hidden (hplain.keeps (hstT.trans hsetT))
      clear hI hS7 hS6 hl7 hd7 he2 hset hsetT hr8 hr7
      gi_wp2
      exact ⟨hKFH.out, rfl, hIH.out⟩
  case done =>
    rintro D' xs W hD' hxs ⟨o1, hs, hl, hd, he, hr, hro⟩ hK
    have hplain := plainify_plain (B := W0.heap.size) (W := W) (o := o1) (Thr L D X) hNT
    replace hs := hs.plainify (B := W0.heap.size) (Nat.le_refl _)
    replace hl := hl.plainify (B := W0.heap.size)
    replace hd := hd.plainify (B := W0.heap.size)
    replace hro : plainify W0.heap.size W o1 rb = (X, 0) := by rw [plainify_cells hr]; exact hro
    generalize plainify W0.heap.size W o1 = o2 at *
    clear o1
    have hKt := hplain D' _ hD' hK rfl
    have hrow1 : (PL xs).1.row.length ≤ 1000000 := by
      rw [hPLH.out, hxs]
      have := putL_row m1 many b (List.range many) d
      rw [List.length_range] at this; omega
    have hE1 : (putL m1 many b (List.range many) d).2 = 0 := by rw [← hxs, ← hPLH.out]; rw [hEQ0H.out] at he; exact he
    rw [hPLH.out, hxs] at hd hrow1
    rw [if_neg (by rw [hE1]; simp)] at hEH
    generalize (putL m1 many b (List.range many) d).1 = dN at *
    obtain ⟨d2, e2, hy⟩ : ∃ d2 e2, dN.sync = (d2, e2) := ⟨_, _, rfl⟩
    rw [hy] at hEH
    have hsy := sync_is hd hrow1 hy
    have cl' := (hbl3.step hs hNT).cell
    obtain ⟨h0, -⟩ := hl.held.cells
    have hrl := lt_of_block hr
    have hKl := (Array.getElem?_eq_some_iff.1 hK).1
    clear he hy hE1 own hplain hd hxs
    gi_wp2_with (refine ⟨trivial, (callsIn_wide.2 hsy).mono ?_⟩; rintro e W8 ⟨v8, o8, rfl, hs8, rfl, hd8⟩
                 have hr8 : W8.heap[rb]? = _ := (hs8.block rb hrl (by rw [hro]; exact fun e => hX.2.2 e)).trans hr
                 have hro8 : o8 rb = (X, 0) := (hs8.own rb hrl).trans hro
                 have hK8 : W8.heap[D']? = _ := (hs8.block D' hKl (fun e => hKt (.inr (.inl e)))).trans hK
                 have fr8 := free_of_block hr8 0
                 have cr8 : W8.cell? ⟨rb, 0, none⟩ = some (.int .i64 0) := cell_of_one hr8
                 have hl8 := hl.step hs8 (fun e => hLD e) (fun e => hD e.symm)
                 have hset := (Step.refl (Only X) W8 o8).setCell (a := ⟨rb, 0, none⟩) (.int .i64 e2) (.inl (by show (o8 rb).1 = X; rw [hro8]))
                 have hr9 := heap_setCell_at (i := 0) (.int .i64 e2) hr8
                 simp only [List.set_cons_zero] at hr9
                 have hl9 := hl8.step hset (fun e => hX.2.1 e.symm) (fun e => hX.1 e.symm)
                 have hd9 := hd8.step hset (fun e => hX.2.2 e.symm)
                 have hK9 : (W8.setCell ⟨rb, 0, none⟩ (.int .i64 e2)).heap[D']? = _ := (Below.heap_setCell _ _ _ _ (by show D' ≠ rb; omega)).trans hK8
                 have hst9 := ((hs3.trans hs).trans (hs8.mono (fun k h => (.inr (.inl h) : Thr L D X k)))).trans (hset.mono (fun k h => (.inr (.inr h) : Thr L D X k)))
                 clear hsy hs8 hl8 hd8 hset hr8 hK8)
    have hoth : Others (W8.setCell ⟨rb, 0, none⟩ (.int .i64 e2)) (some D') := fun r e => by cases e; exact ⟨_, hK9, rfl⟩
    have hg := grownBy_putObj' (W8.setCell ⟨rb, 0, none⟩ (.int .i64 e2)) D' (.deferred none)
    have hc5 : ((W8.setCell ⟨rb, 0, none⟩ (.int .i64 e2)).putObj D' (.deferred none)).cell? ⟨rb, 0, none⟩ = some (.int .i64 e2) := hoth.cell hg (cell_of_one hr9)
    refine ⟨by simp, .inl ⟨_, _, rfl, run_takeDeferred hK9, ?_⟩⟩
    refine ⟨.int .i64 e2, ?_, ?_⟩
    · simp [results, Try.f85, go_sem, hc5]
    · rw [hEH.out]
      refine ⟨_, ext (W8.setCell ⟨rb, 0, none⟩ (.int .i64 e2)) o8, rfl, ?_, rfl, hl9.kept hoth hg, hd9.kept hoth hg⟩
      exact Step.thrIn (hst9.kept hg (fun r e => by cases e; have := hs3.size; omega)) hXf
  case stop =>
    rintro D' c pre W hD' ⟨k, hk, hk1, hpre⟩ ⟨rfl, o1, hs, hl, hd, he, hr, hro⟩ hK
    have hPk : PL pre = putL m1 many b (List.range many) d := by
      rw [hNE0H.out, hPLH.out, hpre] at he
      rw [hPLH.out, hpre, show List.range many = List.range k ++ (List.range (many - k)).map (k + ·) from by rw [← List.range_add]; congr 1; omega, putL_err _ _ _ _ _ _ he]
    have hEN : (putL m1 many b (List.range many) d).2 ≠ 0 := by rw [← hPk]; rw [hNE0H.out] at he; exact he
    rw [if_pos hEN] at hEH
    rw [hPk] at hd hr
    obtain ⟨dN, eN, hN1⟩ : ∃ dN eN, putL m1 many b (List.range many) d = (dN, eN) := ⟨_, _, rfl⟩
    rw [hN1] at hd hr hEH
    have hst9 := hs3.trans hs
    clear he hPk hEN own hpre hN1
    gi_wp2
    have hoth : Others W (some D') := fun r e => by cases e; exact ⟨_, hK, rfl⟩
    have hg := grownBy_putObj' W D' (.deferred none)
    have hc5 : (W.putObj D' (.deferred none)).cell? ⟨rb, 0, none⟩ = some (.int .i64 eN) := hoth.cell hg (cell_of_one hr)
    refine ⟨by simp, .inl ⟨_, _, rfl, run_takeDeferred hK, ?_⟩⟩
    refine ⟨.int .i64 eN, ?_, ?_⟩
    · simp [results, Try.f85, go_sem, hc5]
    · rw [hEH.out]
      refine ⟨_, ext W o1, rfl, ?_, rfl, hl.kept hoth hg, hd.kept hoth hg⟩
      exact Step.thrIn (hst9.kept hg (fun r e => by cases e; have := hs3.size; omega)) hXf
end
end Go.Proofs.YtfgggkheadfiaaaR
/- Contracts: Commit, Reset. -/
namespace Go.Proofs.YtfgggkheadfiaaaR
open Go Go.RowKit
attribute [local go_sem ↓] Go.wp_at_zero Go.wp_at_succ

namespace LogM
abbrev Act1 := (LogM × DiskM) → (LogM × DiskM) × Int
def stN (fs : List Act1) (s : LogM × DiskM) : Nat → LogM × DiskM
  | 0 => s
  | i + 1 => match fs[i]? with
    | some f => (f (stN fs s i)).1
    | none => stN fs s i
def erN (fs : List Act1) (s : LogM × DiskM) (i : Nat) : Int := match fs[i]? with
  | some f => (f (stN fs s i)).2
  | none => 0
theorem goes_steps (fs : List Act1) (s : LogM × DiskM) : ∀ (n i : Nat), i + n = fs.length → goes (stN fs s) (erN fs s) i n = steps (fs.drop i) (stN fs s i)
  | 0, i, h => by
    rw [List.drop_eq_nil_of_le (by omega)]; rfl
  | n + 1, i, h => by
    have hi : i < fs.length := by omega
    rw [List.drop_eq_getElem_cons hi]
    unfold goes steps
    have h1 : erN fs s i = (fs[i] (stN fs s i)).2 := by unfold erN; rw [List.getElem?_eq_getElem hi]
    have h2 : stN fs s (i + 1) = (fs[i] (stN fs s i)).1 := by conv => lhs; unfold stN
                                                              rw [List.getElem?_eq_getElem hi]
    rw [h1, h2]
    by_cases he : (fs[i] (stN fs s i)).2 ≠ 0
    · rw [if_pos he, if_pos he]
    · rw [if_neg he, if_neg he, goes_steps fs s n (i + 1) (by omega), h2]
theorem step1_same (b : List UInt8) (s : LogM × DiskM) : (step1 b s).1 = s := by unfold step1; split <;> rfl
theorem head_same (s : LogM × DiskM) : (head s).1.1 = { s.1 with stamp := s.1.stamp + 1#64 } ∧ (head s).1.2.row.length ≤ s.2.row.length + 1 := by
  unfold head
  have h1 := DiskM.write_row s.2 (s.1.first : Int) (LeafM.page ⟨s.1.stamp + 1#64, 0, 0, []⟩)
  have h2 := DiskM.sync_row (s.2.write (s.1.first : Int) (LeafM.page ⟨s.1.stamp + 1#64, 0, 0, []⟩)).1
  dsimp only
  split
  · exact ⟨rfl, h1⟩
  · exact ⟨rfl, by dsimp only; omega⟩
theorem step2_same (s : LogM × DiskM) : (step2 s).1.1.n = s.1.n ∧ (step2 s).1.1.end' = s.1.end' ∧ (step2 s).1.2.row.length ≤ s.2.row.length + 1 := by
  unfold step2
  split
  · exact ⟨rfl, rfl, by show s.2.row.length ≤ _; omega⟩
  · obtain ⟨h1, h2⟩ := head_same s
    dsimp only
    exact ⟨by rw [h1], by rw [h1], h2⟩
theorem step3_same (b : List UInt8) (s : LogM × DiskM) : (step3 b s).1.1.n = s.1.n ∧ (step3 b s).1.1.end' = s.1.end' := by
  unfold step3
  dsimp only
  split <;> exact ⟨rfl, rfl⟩
end LogM
theorem func_slc (w : World) (o : Own) (e : TypeId) (vs : List Value) (n : Nat) (hn : vs.length = n) (hl : n ≤ 1000000) : Slc (w.alloc (.cells vs.toArray e)) (tagAt o w.heap.size (0, 0)) (.slice (some ⟨w.heap.size, 0, none⟩) n n) n vs := by
  subst hn; exact slc_new w o e vs hl

section
variable {w : World} {o : Own} {L D p pd : Nat} {s : LogM × DiskM}
set_option maxRecDepth 100000 in
set_option maxHeartbeats 6400000 in
theorem commit_any (hL : L ≠ 0) (hD : D ≠ 0) (hLD : L ≠ D) (h : LD w o L D p pd s) (hrow : s.2.row.length ≤ 700000) (b : List UInt8) (bv : Value) (hb : Bytes w o bv b) (hcapb : capLe bv) (hblen : b.length ≤ 200000000000000) :
    Calls Try.prog 40 #[.pointer (some ⟨p, 0, none⟩), bv] w (Ret (In L D) w o fun v w' o' => v = .int .i64 (LogM.commit b s).2 ∧ LD w' o' L D p pd (LogM.commit b s).1) := by
  have hN : ¬ In L D 0 := fun h => by rcases h with h | h <;> omega
  have hmE : (LogM.many b : Int) = max 1 (((b.length : Int) + 479) / 480) := by unfold LogM.many; omega
  have hmany : LogM.many b ≤ 1000000000000 := by unfold LogM.many; omega
  have hrd : LogM.many b ≤ 2000 → b.length ≤ 960000 := by intro h; unfold LogM.many at h; omega
  obtain ⟨many, hmanyE⟩ : ∃ many, LogM.many b = many := ⟨_, rfl⟩
  obtain ⟨ba, bc, rfl⟩ := slc_form hb
  have s1 := (Step.refl Nobody w o).alloc (.cells #[.pointer (some ⟨p, 0, none⟩)] 57) (0, 0)
  have bl := Box.new w o 57 (.pointer (some ⟨p, 0, none⟩))
  have z1 : (w.alloc (.cells #[.pointer (some ⟨p, 0, none⟩)] 57)).heap.size = w.heap.size + 1 := by simp
  have s2 := (Step.refl Nobody (w.alloc (.cells #[.pointer (some ⟨p, 0, none⟩)] 57)) (tagAt o w.heap.size (0, 0))).alloc (.cells #[.slice ba b.length bc] 28) (0, 0)
  have bb := Box.new (w.alloc (.cells #[.pointer (some ⟨p, 0, none⟩)] 57)) (tagAt o w.heap.size (0, 0)) 28 (.slice ba b.length bc)
  rw [z1] at s2 bb
  have z2 : ((w.alloc (.cells #[.pointer (some ⟨p, 0, none⟩)] 57)).alloc (.cells #[.slice ba b.length bc] 28)).heap.size = w.heap.size + 1 + 1 := by simp
  have s3 := (Step.refl Nobody ((w.alloc (.cells #[.pointer (some ⟨p, 0, none⟩)] 57)).alloc (.cells #[.slice ba b.length bc] 28)) (tagAt (tagAt o w.heap.size (0, 0)) (w.heap.size + 1) (0, 0))).alloc (.cells #[.int .i64 (many : Int)] 3) (0, 0)
  have bm := Box.new ((w.alloc (.cells #[.pointer (some ⟨p, 0, none⟩)] 57)).alloc (.cells #[.slice ba b.length bc] 28)) (tagAt (tagAt o w.heap.size (0, 0)) (w.heap.size + 1) (0, 0)) 3 (.int .i64 (many : Int))
  rw [z2] at s3 bm
  have sT := (s1.trans s2).trans s3
  have bl3 := (bl.step s2 (fun h => h)).step s3 (fun h => h)
  have bb3 := bb.step s3 (fun h => h)
  have hld := h.step sT (fun h => h) (fun h => h) (fun h => h)
  have hb3 := hb.step sT (fun h => h)
  have i1 : (b.length : Int) ≤ 200000000000000 := by omega
  have hmE2 : max 1 (((b.length : Int) + 480 - 1) / 480) = (many : Int) := by rw [← hmanyE, hmE]; omega
  clear s1 s2 s3 bl bb hb h z1
  have hal : Hid (Calls Try.prog 81 #[.pointer (some ⟨p, 0, none⟩), .slice (some ⟨w.heap.size + 1 + 1 + 1, 0, none⟩) 4 4]
      ((((w.alloc (.cells #[.pointer (some ⟨p, 0, none⟩)] 57)).alloc (.cells #[.slice ba b.length bc] 28)).alloc (.cells #[.int .i64 (many : Int)] 3)).alloc (.cells #[.func (.func 82) #[] #[.pointer (some ⟨w.heap.size + 1 + 1, 0, none⟩), .pointer (some ⟨w.heap.size, 0, none⟩)], .func (.func 83) #[] #[.pointer (some ⟨w.heap.size, 0, none⟩)], .func (.func 85) #[] #[.pointer (some ⟨w.heap.size, 0, none⟩), .pointer (some ⟨w.heap.size + 1, 0, none⟩), .pointer (some ⟨w.heap.size + 1 + 1, 0, none⟩)], .func (.func 88) #[] #[.pointer (some ⟨w.heap.size, 0, none⟩), .pointer (some ⟨w.heap.size + 1, 0, none⟩), .pointer (some ⟨w.heap.size + 1 + 1, 0, none⟩)]] 30))
      (Ret (In L D) w o fun v w' o' => v = .int .i64 (LogM.commit b s).2 ∧ LD w' o' L D p pd (LogM.commit b s).1)) := by
    refine hidden ?_
    have z3 : (((w.alloc (.cells #[.pointer (some ⟨p, 0, none⟩)] 57)).alloc (.cells #[.slice ba b.length bc] 28)).alloc (.cells #[.int .i64 (many : Int)] 3)).heap.size = w.heap.size + 1 + 1 + 1 := by simp
    generalize ((w.alloc (.cells #[.pointer (some ⟨p, 0, none⟩)] 57)).alloc (.cells #[.slice ba b.length bc] 28)).alloc (.cells #[.int .i64 (many : Int)] 3) = W3 at *
    generalize tagAt (tagAt (tagAt o w.heap.size (0, 0)) (w.heap.size + 1) (0, 0)) (w.heap.size + 1 + 1) (0, 0) = o3 at *
    obtain ⟨x1, hx1⟩ : ∃ x1, w.heap.size + 1 = x1 := ⟨_, rfl⟩
    obtain ⟨x2, hx2⟩ : ∃ x2, x1 + 1 = x2 := ⟨_, rfl⟩
    rw [hx1] at bb3 bm z3 ⊢
    rw [hx2] at bm z3 ⊢
    generalize w.heap.size = x0 at bl3 ⊢
    have s4 := (Step.refl Nobody W3 o3).alloc (.cells #[.func (.func 82) #[] #[.pointer (some ⟨x2, 0, none⟩), .pointer (some ⟨x0, 0, none⟩)], .func (.func 83) #[] #[.pointer (some ⟨x0, 0, none⟩)], .func (.func 85) #[] #[.pointer (some ⟨x0, 0, none⟩), .pointer (some ⟨x1, 0, none⟩), .pointer (some ⟨x2, 0, none⟩)], .func (.func 88) #[] #[.pointer (some ⟨x0, 0, none⟩), .pointer (some ⟨x1, 0, none⟩), .pointer (some ⟨x2, 0, none⟩)]] 30) (0, 0)
    have hsl := func_slc W3 o3 30 [.func (.func 82) #[] #[.pointer (some ⟨x2, 0, none⟩), .pointer (some ⟨x0, 0, none⟩)], .func (.func 83) #[] #[.pointer (some ⟨x0, 0, none⟩)], .func (.func 85) #[] #[.pointer (some ⟨x0, 0, none⟩), .pointer (some ⟨x1, 0, none⟩), .pointer (some ⟨x2, 0, none⟩)], .func (.func 88) #[] #[.pointer (some ⟨x0, 0, none⟩), .pointer (some ⟨x1, 0, none⟩), .pointer (some ⟨x2, 0, none⟩)]] 4 rfl (by omega)
    rw [z3] at hsl
    have hld4 := hld.step s4 (fun h => h) (fun h => h) (fun h => h)
    have hb4 := hb3.step s4 (fun h => h)
    have bl4 := bl3.step s4 (fun h => h)
    have bb4 := bb3.step s4 (fun h => h)
    have bm4 := bm.step s4 (fun h => h)
    have sT4 : Step (In L D) w o _ _ := (sT.trans s4).in0
    rw [z3] at s4 hld4 hb4 bl4 bb4 bm4 sT4
    clear hsl
    have hsl := func_slc W3 o3 30 [.func (.func 82) #[] #[.pointer (some ⟨x2, 0, none⟩), .pointer (some ⟨x0, 0, none⟩)], .func (.func 83) #[] #[.pointer (some ⟨x0, 0, none⟩)], .func (.func 85) #[] #[.pointer (some ⟨x0, 0, none⟩), .pointer (some ⟨x1, 0, none⟩), .pointer (some ⟨x2, 0, none⟩)], .func (.func 88) #[] #[.pointer (some ⟨x0, 0, none⟩), .pointer (some ⟨x1, 0, none⟩), .pointer (some ⟨x2, 0, none⟩)]] 4 rfl (by omega)
    rw [z3] at hsl
    generalize hW4 : W3.alloc (.cells #[.func (.func 82) #[] #[.pointer (some ⟨x2, 0, none⟩), .pointer (some ⟨x0, 0, none⟩)], .func (.func 83) #[] #[.pointer (some ⟨x0, 0, none⟩)], .func (.func 85) #[] #[.pointer (some ⟨x0, 0, none⟩), .pointer (some ⟨x1, 0, none⟩), .pointer (some ⟨x2, 0, none⟩)], .func (.func 88) #[] #[.pointer (some ⟨x0, 0, none⟩), .pointer (some ⟨x1, 0, none⟩), .pointer (some ⟨x2, 0, none⟩)]] 30) = W4 at *
    have hsl' := hsl
    generalize tagAt o3 (x2 + 1) (0, 0) = o4 at *
    clear hsl hW4
    cases hdd : (s.1.dead || s.2.dead) with
    | true =>
      have hE : LogM.commit b s = (s, 9) := by unfold LogM.commit LogM.alive; rw [if_pos hdd]
      refine (alive_dead hld4 hdd _ _ _).mono ?_
      rintro e w' ⟨v, o', rfl, hs, rfl⟩
      rw [hE]
      exact ⟨_, o', rfl, sT4.trans hs.in0, rfl, hld4.step hs (fun h => h) (fun h => h) (fun h => h)⟩
    | false =>
      obtain ⟨fs, hfs⟩ : ∃ fs : List LogM.Act1, fs = [LogM.step1 b, LogM.step2, LogM.step3 b, LogM.step4 b] := ⟨_, rfl⟩
      have hE : LogM.commit b s = LogM.goes (LogM.stN fs s) (LogM.erN fs s) 0 4 := by
        rw [LogM.goes_steps fs s 4 0 (by rw [hfs]; rfl)]
        unfold LogM.commit LogM.alive
        rw [if_neg (by rw [hdd]; simp), hfs]; rfl
      have e1 : LogM.stN fs s 1 = (LogM.step1 b s).1 ∧ LogM.erN fs s 0 = (LogM.step1 b s).2 := by rw [hfs]; exact ⟨rfl, rfl⟩
      have e2 : LogM.stN fs s 2 = (LogM.step2 (LogM.stN fs s 1)).1 ∧ LogM.erN fs s 1 = (LogM.step2 (LogM.stN fs s 1)).2 := by rw [hfs]; exact ⟨rfl, rfl⟩
      have e3 : LogM.stN fs s 3 = (LogM.step3 b (LogM.stN fs s 2)).1 ∧ LogM.erN fs s 2 = (LogM.step3 b (LogM.stN fs s 2)).2 := by rw [hfs]; exact ⟨rfl, rfl⟩
      have e4 : LogM.stN fs s 4 = (LogM.step4 b (LogM.stN fs s 3)).1 ∧ LogM.erN fs s 3 = (LogM.step4 b (LogM.stN fs s 3)).2 := by rw [hfs]; exact ⟨rfl, rfl⟩
      clear hfs
      have q1 : LogM.stN fs s 1 = s := e1.1.trans (LogM.step1_same b s)
      have r0 : LogM.erN fs s 0 = 0 → many ≤ s.1.n - s.1.end' := by
        rw [e1.2]; unfold LogM.step1
        rw [hmanyE]
        intro h
        split at h
        · cases h
        · omega
      have q2 := LogM.step2_same (LogM.stN fs s 1)
      rw [← e2.1, q1] at q2
      have q3 := LogM.step3_same b (LogM.stN fs s 2)
      rw [← e3.1] at q3
      have hwf := hld.1.wf
      refine (alive_any hL hD hLD (LogM.stN fs s) (LogM.erN fs s) hld4 hdd 4 (by omega) _ rfl (fun i => [82, 83, 85, 88].getD i 0) (fun _ => #[]) (fun i => ([#[.pointer (some ⟨x2, 0, none⟩), .pointer (some ⟨x0, 0, none⟩)], #[.pointer (some ⟨x0, 0, none⟩)], #[.pointer (some ⟨x0, 0, none⟩), .pointer (some ⟨x1, 0, none⟩), .pointer (some ⟨x2, 0, none⟩)], #[.pointer (some ⟨x0, 0, none⟩), .pointer (some ⟨x1, 0, none⟩), .pointer (some ⟨x2, 0, none⟩)]] : List (Array Value)).getD i #[]) ?_ ?_ _ _ hsl' ?_).mono ?_
      · intro i hi
        have : i = 0 ∨ i = 1 ∨ i = 2 ∨ i = 3 := by omega
        rcases this with rfl | rfl | rfl | rfl <;> rfl
      · intro i args x hi
        have : i = 0 ∨ i = 1 ∨ i = 2 ∨ i = 3 := by omega
        rcases this with rfl | rfl | rfl | rfl
        · exact Try.call82 args x
        · exact Try.call83 args x
        · exact Try.call85 args x
        · exact Try.call88 args x
      · intro i hi hj w1 o1 hst hl1
        have B0 := bl4.step hst hN
        have B1 := bb4.step hst hN
        have B2 := bm4.step hst hN
        have Bb := hb4.step hst hN
        rw [← hmanyE] at B2
        have : i = 0 ∨ i = 1 ∨ i = 2 ∨ i = 3 := by omega
        rcases this with rfl | rfl | rfl | rfl
        · have := step1_any (s := LogM.stN fs s 0) hl1 b hmany x2 x0 B2 B0
          show Calls Try.prog 82 _ w1 _
          rw [e1.1, e1.2]; exact this
        · have := step2_any hL hD hLD hl1 (by rw [q1]; omega) x0 B0
          show Calls Try.prog 83 _ w1 _
          rw [e2.1, e2.2]; exact this
        · have hr := r0 (hj 0 (by omega))
          have := step3_any hL hD hLD hl1 (by omega) b _ Bb hcapb (by rw [q2.1, q2.2.1, hmanyE]; exact hr) (hrd (by rw [hmanyE]; obtain ⟨_, _, h3, _⟩ := hwf; omega)) x0 x1 x2 B0 B1 B2
          show Calls Try.prog 85 _ w1 _
          rw [e3.1, e3.2]; exact this
        · have hr := r0 (hj 0 (by omega))
          have := step4_any hL hLD hl1 b _ Bb (by rw [q3.1, q3.2, q2.1, q2.2.1, hmanyE]; exact hr) (hrd (by rw [hmanyE]; obtain ⟨_, _, h3, _⟩ := hwf; omega)) x0 x1 x2 B0 B1 B2
          show Calls Try.prog 88 _ w1 _
          rw [e4.1, e4.2]; exact this
      · rintro e w' ⟨v, o', rfl, hs, rfl, hl⟩
        rw [hE]
        exact ⟨_, o', rfl, sT4.trans hs, rfl, hl⟩
  clear hld hb3 bl3 bb3 bm sT hmE z2
  by_cases hq : ((b.length : Int) + 480 - 1) / 480 ≤ 1
  rotate_left
  · have e : ((b.length : Int) + 480 - 1) / 480 = (many : Int) := by omega
    rw [← e] at hal
    clear e hmE2 hmanyE
    go_enter Try.func40, Try.ntmps40
    go_wp2_with fail
    refine hal.out.mono ?_; rintro e w' ⟨v, o', rfl, hs, rfl, hl⟩
    go_wp2_with fail
    go_ret
    exact ⟨_, o', rfl, hs, rfl, hl⟩
  · have e : (1 : Int) = (many : Int) := by omega
    rw [← e] at hal
    clear e hmE2 hmanyE
    go_enter Try.func40, Try.ntmps40
    go_wp2_with fail
    refine hal.out.mono ?_; rintro e w' ⟨v, o', rfl, hs, rfl, hl⟩
    go_wp2_with fail
    go_ret
    exact ⟨_, o', rfl, hs, rfl, hl⟩
end
end Go.Proofs.YtfgggkheadfiaaaR
/- Contracts: Reset, Batches. -/
namespace Go.Proofs.YtfgggkheadfiaaaR
open Go Go.RowKit
attribute [local go_sem ↓] Go.wp_at_zero Go.wp_at_succ

section
variable {w : World} {o : Own} {L D p pd : Nat} {s : LogM × DiskM}
set_option maxRecDepth 100000 in
set_option maxHeartbeats 6400000 in
theorem reset_any (hL : L ≠ 0) (hD : D ≠ 0) (hLD : L ≠ D) (h : LD w o L D p pd s) (hrow : s.2.row.length ≤ 700000) :
    Calls Try.prog 43 #[.pointer (some ⟨p, 0, none⟩)] w (Ret (In L D) w o fun v w' o' => v = .int .i64 (LogM.reset s).2 ∧ LD w' o' L D p pd (LogM.reset s).1) := by
  have hN : ¬ In L D 0 := fun h => by rcases h with h | h <;> omega
  have s1 := (Step.refl Nobody w o).alloc (.cells #[.pointer (some ⟨p, 0, none⟩)] 57) (0, 0)
  have bl := Box.new w o 57 (.pointer (some ⟨p, 0, none⟩))
  have z1 : (w.alloc (.cells #[.pointer (some ⟨p, 0, none⟩)] 57)).heap.size = w.heap.size + 1 := by simp
  have hld := h.step s1 (fun h => h) (fun h => h) (fun h => h)
  have hal : Hid (Calls Try.prog 81 #[.pointer (some ⟨p, 0, none⟩), .slice (some ⟨w.heap.size + 1, 0, none⟩) 2 2]
      ((w.alloc (.cells #[.pointer (some ⟨p, 0, none⟩)] 57)).alloc (.cells #[.func (.func 84) #[.pointer (some ⟨p, 0, none⟩)] #[], .func (.func 93) #[] #[.pointer (some ⟨w.heap.size, 0, none⟩)]] 30))
      (Ret (In L D) w o fun v w' o' => v = .int .i64 (LogM.reset s).2 ∧ LD w' o' L D p pd (LogM.reset s).1)) := by
    refine hidden ?_
    generalize w.alloc (.cells #[.pointer (some ⟨p, 0, none⟩)] 57) = W3 at *
    generalize tagAt o w.heap.size (0, 0) = o3 at *
    rw [← z1]
    generalize w.heap.size = x0 at bl ⊢
    have s4 := (Step.refl Nobody W3 o3).alloc (.cells #[.func (.func 84) #[.pointer (some ⟨p, 0, none⟩)] #[], .func (.func 93) #[] #[.pointer (some ⟨x0, 0, none⟩)]] 30) (0, 0)
    have hsl := func_slc W3 o3 30 [.func (.func 84) #[.pointer (some ⟨p, 0, none⟩)] #[], .func (.func 93) #[] #[.pointer (some ⟨x0, 0, none⟩)]] 2 rfl (by omega)
    have hld4 := hld.step s4 (fun h => h) (fun h => h) (fun h => h)
    have bl4 := bl.step s4 (fun h => h)
    have sT4 : Step (In L D) w o _ _ := (s1.trans s4).in0
    cases hdd : (s.1.dead || s.2.dead) with
    | true =>
      have hE : LogM.reset s = (s, 9) := by unfold LogM.reset LogM.alive; rw [if_pos hdd]
      refine (alive_dead hld4 hdd _ _ _).mono ?_
      rintro e w' ⟨v, o', rfl, hs, rfl⟩
      rw [hE]
      exact ⟨_, o', rfl, sT4.trans hs.in0, rfl, hld4.step hs (fun h => h) (fun h => h) (fun h => h)⟩
    | false =>
      obtain ⟨fs, hfs⟩ : ∃ fs : List LogM.Act1, fs = [LogM.head, LogM.reset2] := ⟨_, rfl⟩
      have hE : LogM.reset s = LogM.goes (LogM.stN fs s) (LogM.erN fs s) 0 2 := by
        rw [LogM.goes_steps fs s 2 0 (by rw [hfs]; rfl)]
        unfold LogM.reset LogM.alive
        rw [if_neg (by rw [hdd]; simp), hfs]; rfl
      have e1 : LogM.stN fs s 1 = (LogM.head s).1 ∧ LogM.erN fs s 0 = (LogM.head s).2 := by rw [hfs]; exact ⟨rfl, rfl⟩
      have e2 : LogM.stN fs s 2 = (LogM.reset2 (LogM.stN fs s 1)).1 ∧ LogM.erN fs s 1 = (LogM.reset2 (LogM.stN fs s 1)).2 := by rw [hfs]; exact ⟨rfl, rfl⟩
      clear hfs
      refine (alive_any hL hD hLD (LogM.stN fs s) (LogM.erN fs s) hld4 hdd 2 (by omega) _ rfl (fun i => [84, 93].getD i 0) (fun i => ([#[.pointer (some ⟨p, 0, none⟩)], #[]] : List (Array Value)).getD i #[]) (fun i => ([#[], #[.pointer (some ⟨x0, 0, none⟩)]] : List (Array Value)).getD i #[]) ?_ ?_ _ _ hsl ?_).mono ?_
      · intro i hi
        have : i = 0 ∨ i = 1 := by omega
        rcases this with rfl | rfl <;> rfl
      · intro i args x hi
        have : i = 0 ∨ i = 1 := by omega
        rcases this with rfl | rfl
        · exact Try.call84 args x
        · exact Try.call93 args x
      · intro i hi hj w1 o1 hst hl1
        have B0 := bl4.step hst hN
        have : i = 0 ∨ i = 1 := by omega
        rcases this with rfl | rfl
        · have := head_any (s := LogM.stN fs s 0) hL hD hLD hl1 (by show s.2.row.length ≤ 900000; omega)
          show Calls Try.prog 84 _ w1 _
          rw [e1.1, e1.2]; exact this
        · have := reset2_any hL hLD hl1 x0 B0
          show Calls Try.prog 93 _ w1 _
          rw [e2.1, e2.2]; exact this
      · rintro e w' ⟨v, o', rfl, hs, rfl, hl⟩
        rw [hE]
        exact ⟨_, o', rfl, sT4.trans hs, rfl, hl⟩
  clear hld bl s1 h z1
  go_enter Try.func43, Try.ntmps43
  go_wp2_with fail
  refine hal.out.mono ?_; rintro e w' ⟨v, o', rfl, hs, rfl, hl⟩
  go_wp2_with fail
  go_ret
  exact ⟨_, o', rfl, hs, rfl, hl⟩
end

/-- New rows of bytes: each in memory that the call made. -/
def RowsN (w w' : World) (vs : List Value) (ls : List (List UInt8)) : Prop := vs.length = ls.length ∧ ∀ (i : Nat) v l, vs[i]? = some v → ls[i]? = some l → w'.ownsRow w.heap.size 5 1 v l.length (bvs l)
theorem RowsN.below {w w' w'' : World} {vs : List Value} {ls : List (List UInt8)} (h : RowsN w w' vs ls) (hb : Below w'.heap.size w' w'') : RowsN w w'' vs ls :=
  ⟨h.1, fun i v l hv hl => by
    have := h.2 i v l hv hl
    refine ⟨this.1, ?_⟩
    rcases this.2 with hn | ⟨g, cap, cur, rfl, h1, h2, rest⟩
    · exact .inl hn
    · exact .inr ⟨g, cap, cur, rfl, h1, by rw [hb.block g (lt_of_block h2)]; exact h2, rest⟩⟩
theorem RowsN.snoc {w w' : World} {vs : List Value} {ls : List (List UInt8)} {v : Value} {l : List UInt8} (h : RowsN w w' vs ls) (hb : w'.ownsRow w.heap.size 5 1 v l.length (bvs l)) : RowsN w w' (vs ++ [v]) (ls ++ [l]) := by
  refine ⟨by simp [h.1], fun i v' l' hv hl => ?_⟩
  by_cases hi : i < vs.length
  · rw [List.getElem?_append_left hi] at hv
    rw [List.getElem?_append_left (by rw [← h.1]; exact hi)] at hl
    exact h.2 i v' l' hv hl
  · rw [List.getElem?_append_right (by omega)] at hv
    rw [List.getElem?_append_right (by rw [← h.1]; omega), ← h.1] at hl
    cases hj : i - vs.length with
    | zero => rw [hj] at hv hl; simp at hv hl; subst hv; subst hl; exact hb
    | succ j => rw [hj] at hv; simp at hv
theorem ownsRow_base {w : World} {b b' : Nat} {e : TypeId} {size n : Nat} {v : Value} {xs : List Value} (h : w.ownsRow b' e size v n xs) (hb : b ≤ b') : w.ownsRow b e size v n xs := by
  refine ⟨h.1, ?_⟩
  rcases h.2 with hn | ⟨g, cap, cur, rfl, h1, rest⟩
  · exact .inl hn
  · exact .inr ⟨g, cap, cur, rfl, Nat.le_trans hb h1, rest⟩
theorem own_bytes {w : World} {o : Own} {b : Nat} {v : Value} {l : List UInt8} (h : w.ownsRow b 5 1 v l.length (bvs l)) (ho : ∀ k, v.ownBlock = some k → (o k).1 = 0) : Bytes w o v l := by
  rcases h.2 with ⟨rfl, h0⟩ | ⟨g, cap, cur, rfl, h1, h2, h3, h4, h5, h6⟩
  · exact .inl ⟨⟨_, _, rfl⟩, h0, by rw [List.eq_nil_of_length_eq_zero h0]; rfl⟩
  · refine .inr ⟨g, 0, cap, rfl, h3, h4, ho g rfl, lt_of_block h2, ?_⟩
    have : w.rangeAt g 0 ((cur.toList.drop 0).take l.length) := range_of_block (w := w) (b := g) (cs := cur.toList) (E := 5) (fr := (0, 0)) (by simpa using h2) 0 l.length
    rw [List.drop_zero] at this
    rw [Nat.mul_one] at h6
    rwa [h6] at this

set_option maxRecDepth 100000 in
set_option maxHeartbeats 3200000 in
theorem batches_any {w : World} {o : Own} {L p pd : Nat} {m : LogM} (h : LogAt w o L p pd m) :
    Calls Try.prog 51 #[.pointer (some ⟨p, 0, none⟩)] w fun e w' => ∃ v vs, e = .returned v ∧ Below w.heap.size w w' ∧ w'.ownsRow w.heap.size 28 1 v m.records.length vs ∧ RowsN w w' vs m.records := by
  obtain ⟨g1, g2, g3, g4, g5, g6, g7⟩ := h.wf
  obtain ⟨rv, vs, ⟨-, -, -, -, -, -, c6, -⟩, -, hro, hv, -, -⟩ := h.open
  obtain ⟨ra, rc, rfl⟩ := own_form hro
  have hplt := h.lt
  obtain ⟨rs, hrs⟩ : ∃ rs, m.records = rs := ⟨_, rfl⟩
  rw [hrs] at hro hv g6 g7 ⊢
  rw [hrs] at c6
  clear hrs h
  have hn : rs.length ≤ 2000 := by omega
  have hcell : ∀ k x, vs[k]? = some x → ∃ g, ra = some ⟨g, 0, none⟩ ∧ w.cell? ⟨g, k, none⟩ = some x ∧ g < w.heap.size := by
    intro k x hx
    rcases hro.2 with ⟨_, h0⟩ | ⟨g, cap, cur, h1, h2, h3, h4, h5, h6, h7⟩
    · have := hv.1; have := (List.getElem?_eq_some_iff.1 hx).1; omega
    · simp only [Value.slice.injEq] at h1
      refine ⟨g, h1.1, ?_, lt_of_block h3⟩
      rw [cell_of_block (cs := cur.toList) (E := 28) (fr := (0, 0)) (by simpa using h3)]
      rw [← h7, List.getElem?_take] at hx
      split at hx
      · exact hx
      · cases hx
  have hkl : ∀ k, k < rs.length → ∃ x l, vs[k]? = some x ∧ rs[k]? = some l ∧ l.length ≤ 960000 := fun k hk => ⟨_, _, List.getElem?_eq_getElem (by have := hv.1; omega), List.getElem?_eq_getElem hk, g7 _ (List.getElem_mem hk)⟩
  have hvH := hidden hv
  have hsn : ∀ k l, rs[k]? = some l → rs.take (k + 1) = rs.take k ++ [l] := fun k l hl => by rw [List.take_add_one, hl]; rfl
  have hsnH := hidden hsn
  have hallH := hidden (List.take_length (l := rs))
  clear hv hro hsn g1 g2 g3 g4 g5 g6 g7
  obtain ⟨n, hn2⟩ : ∃ n, rs.length = n := ⟨_, rfl⟩
  rw [hn2] at hallH hkl c6 hn ⊢
  have hn2H := hidden hn2
  clear hn2
  go_enter Try.func51, Try.ntmps51
  go_wp2_with fail
  go_loopw [3, 13] (fun out i wr => ∃ k : Nat, ∃ us, k ≤ n ∧ i = .int .i64 k ∧ wr.ownsRow w.heap.size 28 1 out k us ∧ RowsN w wr us (rs.take k) ∧ Below w.heap.size w wr) (fun _ i _ => n - (intOf i).toNat)
  case atStart => exact ⟨0, [], Nat.zero_le _, rfl, World.ownsRow_nil _ _ _ _, ⟨rfl, fun i v l hv _ => by simp at hv⟩, Below.refl _ _⟩
  case round =>
    obtain ⟨k, us, hk, rfl, hown, hrows, hbel⟩ := hrel
    by_cases hlt : k < n
    · obtain ⟨x, l, hx, hl, hll⟩ := hkl k hlt
      obtain ⟨g, rfl, hc, hgl⟩ := hcell k x hx
      have hbx := hvH.out.2 k x l hx hl
      obtain ⟨xa, xc, rfl⟩ := slc_form hbx
      have hc2 : wr.cell? ⟨g, k, none⟩ = some (.slice xa l.length xc) := by rw [World.cell?_of_block (a := ⟨g, k, none⟩) (hbel.block g hgl)]; exact hc
      have hstepN : Step Nobody w o wr (fun k => if k < w.heap.size then o k else (0, 0)) := ⟨hbel.os, hbel.tape, hbel.output, hbel.size, fun k hk => if_pos hk, fun k hk _ => hbel.block k hk⟩
      have hcl := clone_any (hbx.step hstepN (fun h => h)) (by omega)
      obtain ⟨oa, oc, rfl⟩ := own_form hown
      have hsize := hbel.size
      have hs1 := hsnH.out k l hl
      have hs1H := hidden hs1
      have hrowsH := hidden hrows
      have hownH := hidden hown
      clear hbx hx hl hcell hkl hvH hs1 hstepN hrows hown hc
      go_wp2_with fail
      refine hcl.mono ?_; rintro e w1 ⟨v1, o1, rfl, hst1, hn1⟩
      have hb1 : Below wr.heap.size wr w1 := hst1.below
      obtain ⟨va, vc, rfl⟩ := own_form hn1.1
      have hb1' : Below w.heap.size w w1 := hbel.trans (hb1.mono hsize)
      have hsz1 := hb1.size
      have hb2 : Below w1.heap.size w1 (w1.alloc (.cells #[.slice va l.length vc] 28)) := (Below.refl _ _).alloc (Nat.le_refl _) _
      have hnb : (w1.alloc (.cells #[.slice va l.length vc] 28)).heap[w1.heap.size]? = some (.cells #[.slice va l.length vc] 28 (0, 0)) := heap_alloc_new w1 _
      have hown2 : (w1.alloc (.cells #[.slice va l.length vc] 28)).ownsRow w.heap.size 28 1 (.slice oa k oc) k us := by
        refine ⟨hownH.out.1, ?_⟩
        rcases hownH.out.2 with hnn | ⟨g', cap, cur, hv', h1, h2, rest⟩
        · exact .inl hnn
        · exact .inr ⟨g', cap, cur, hv', h1, by rw [hb2.block g' (by have := lt_of_block h2; omega), hb1.block g' (lt_of_block h2)]; exact h2, rest⟩
      obtain ⟨g2, cap2, w3, hrun, hown3, hgrow, hat, hlt3⟩ := run_append_slices (w1.alloc (.cells #[.slice va l.length vc] 28)) (base := w.heap.size) (by simp; omega) _ _ _ hown2 w1.heap.size (.slice va l.length vc) rfl (range_whole (cs := [.slice va l.length vc]) hnb) (by omega)
      have hb3 : Below w.heap.size w w3 := (hb1'.trans (hb2.mono (by omega))).grown hgrow (by simp; omega) (fun k hk => (hown2.lt k hk).1)
      have hrow3 : RowsN w w3 (us ++ [.slice va l.length vc]) (rs.take (k + 1)) := by
        rw [hs1H.out]
        have hkeepG : ∀ {v : Value} {l' : List UInt8}, (w1.alloc (.cells #[.slice va l.length vc] 28)).ownsRow w.heap.size 5 1 v l'.length (bvs l') → w3.ownsRow w.heap.size 5 1 v l'.length (bvs l') := fun {v l'} h => by
          refine ⟨h.1, ?_⟩
          rcases h.2 with hnn | ⟨g', cap, cur, hv', h1, h2, rest⟩
          · exact .inl hnn
          · refine .inr ⟨g', cap, cur, hv', h1, ?_, rest⟩
            rw [hgrow.block g' (lt_of_block h2)]
            · exact h2
            · intro hx
              rcases hown2.2 with ⟨h3, _⟩ | ⟨g3, cap3, cur3, h3, _, h4, _⟩
              · rw [h3] at hx; simp [Value.ownBlock] at hx
              · rw [h3] at hx
                simp only [Value.ownBlock, Option.some.injEq] at hx
                subst hx
                rw [h4] at h2; cases h2
        have h1 := (hrowsH.out.below hb1).below hb2
        have hl2 : (w1.alloc (.cells #[.slice va l.length vc] 28)).ownsRow w.heap.size 5 1 (.slice va l.length vc) l.length (bvs l) := by
          refine ownsRow_base (b' := wr.heap.size) ?_ hsize
          refine ⟨hn1.1.1, ?_⟩
          rcases hn1.1.2 with hnn | ⟨g', cap, cur, hv', h1, h2, rest⟩
          · exact .inl hnn
          · exact .inr ⟨g', cap, cur, hv', h1, by rw [hb2.block g' (lt_of_block h2)]; exact h2, rest⟩
        exact ⟨by simp [h1.1], fun i v' l' hv hl => hkeepG ((h1.snoc hl2).2 i v' l' hv hl)⟩
      have hrunH := hidden hrun
      have hown3H := hidden hown3
      have hrow3H := hidden hrow3
      clear hrun hown3 hrow3 hown2 hat hnb hcl hn1 hst1
      go_wp2_with ((with_reducible apply lit_append); exact hrunH.out; simp only [Act.put, List.setIfInBounds_toArray, List.set_cons_zero, List.set_cons_succ])
      go_roundw
      case rel => exact ⟨k + 1, _, hlt, by go_num, hown3H.out, hrow3H.out, hb3⟩
      case measure => simp [intOf]; omega
    · obtain rfl : n = k := by omega
      rw [hallH.out] at hrows
      obtain ⟨oa, oc, rfl⟩ := own_form hown
      go_wp2_with fail
      go_ret
      exact ⟨_, us, rfl, hbel, hown, hrows⟩
end Go.Proofs.YtfgggkheadfiaaaR
/- Laws on rows: bytes appended to a row, a record appended to a log's records. -/
namespace Go.Proofs.YtfgggkheadfiaaaR
open Go Go.RowKit

theorem append_any (W : World) {base : Nat} (hbase : base ≤ W.heap.size) {v : Value} {n : Nat} {xs : List UInt8} (hown : W.ownsRow base 5 1 v n (bvs xs)) {o : Own} {yv : Value} {l : List UInt8} (hy : Bytes W o yv l) (h63 : n + l.length ≤ 1000000000) :
    ∃ v' w', (Builtin.append_ #[28, 28] 28 #[v, yv]).run Try.prog W = .ok v' w' ∧ w'.ownsRow base 5 1 v' (n + l.length) (bvs (xs ++ l)) ∧ W.grownBy w' v.ownBlock := by
  have hself : W.grownBy W v.ownBlock := ⟨rfl, rfl, rfl, Nat.le_refl _, fun _ _ _ => rfl⟩
  obtain ⟨va, vc, rfl⟩ := own_form hown
  have hcap : n ≤ vc := by
    rcases hown.2 with ⟨h1, h2⟩ | ⟨g, cap, cur, h1, _, _, h2, h3, _⟩
    · simp only [Value.slice.injEq] at h1; omega
    · simp only [Value.slice.injEq] at h1; omega
  rcases hy.cases with ⟨⟨a, c, rfl⟩, rfl⟩ | ⟨b, off, cap, rfl, hc, hm, ho, hb, hr⟩
  · exact ⟨_, W, run_append_none (P := Try.prog) W 28 28 5 1 Try.underlying28 (by kernel_rfl) va a n vc c hcap (by omega), by simpa using hown, hself⟩
  · by_cases h0 : l.length = 0
    · have hl : l = [] := List.eq_nil_of_length_eq_zero h0
      subst hl
      exact ⟨_, W, run_append_none (P := Try.prog) W 28 28 5 1 Try.underlying28 (by kernel_rfl) va (some ⟨b, off, none⟩) n vc cap hcap (by omega), by simpa using hown, hself⟩
    · obtain ⟨g, cap', w', h1, h2, h3, _⟩ := run_append_bytes W hbase _ n xs hown b off l.length cap l rfl hr (by omega) h63
      exact ⟨_, w', h1, h2, h3⟩

/-- A record is appended to a log's records, and its end is set. -/
theorem LogAt.append {W : World} {o : Own} {L p pd : Nat} {m : LogM} (hl : LogAt W o L p pd m) (hL : L ≠ 0) {nb : Nat} {x : Value} {r : List UInt8} (hnb : W.heap[nb]? = some (.cells #[x] 28 (0, 0))) (hx : Bytes W o x r) (hxm : Mine W o x) (k : Nat) (hwf : ({ m with records := m.records ++ [r], end' := k } : LogM).wf) :
    ∃ rv v' w3 o3, W.cell? ⟨p, 6, none⟩ = some rv ∧ (∃ a c, rv = .slice a m.records.length c) ∧ (Builtin.append_ #[83, 83] 83 #[rv, .slice (some ⟨nb, 0, none⟩) 1 1]).run Try.prog W = .ok v' w3 ∧ (∃ a c, v' = .slice a (m.records.length + 1) c) ∧
      Step (Only L) W o w3 o3 ∧ w3.heap[p]? = W.heap[p]? ∧ Step (Only L) W o ((w3.setCell ⟨p, 6, none⟩ v').setCell ⟨p, 5, none⟩ (.int .i64 (k : Int))) o3 ∧
      LogAt ((w3.setCell ⟨p, 6, none⟩ v').setCell ⟨p, 5, none⟩ (.int .i64 (k : Int))) o3 L p pd { m with records := m.records ++ [r], end' := k } := by
  have hw := hl.wf
  have hN0 : ¬ Only L 0 := fun h => hL h.symm
  obtain ⟨rv, vs, hp, hro, hv, op, orr, -⟩ := hl
  have hc6 : W.cell? ⟨p, 6, none⟩ = some rv := cell_of_block hp 6
  obtain ⟨xa, xc, rfl⟩ := slc_form hx
  obtain ⟨_, g2, g3, _, g5, g6, _⟩ := hw
  obtain ⟨g, cap, w3, hrun, hown3, hgrow, hat, hlt3⟩ := run_append_slices W (Nat.zero_le _) _ _ _ hro nb _ rfl (range_whole (cs := [.slice xa r.length xc]) hnb) (by omega)
  have hplt := lt_of_block hp
  have hgt : o g = (L, 1) ∨ W.heap.size ≤ g := by
    rcases hat with hat | hat
    · exact .inl (orr g hat)
    · exact .inr (by omega)
  have hs3 : Step (Only L) W o w3 (tagAt o g (L, 1)) := (Step.refl (Only L) W o).grown hgrow (fun k hk => .inl (by rw [orr k hk]; rfl)) g (L, 1) hgt
  have hgp : p ≠ g := by
    rintro rfl
    rcases hgt with h1 | h1
    · rw [op] at h1; simp at h1
    · omega
  have hp3 : w3.heap[p]? = W.heap[p]? := hgrow.block p hplt (by intro hx; have := orr p hx.symm; rw [op] at this; simp at this)
  have hvs3 := (hv.snoc hx hxm).step hs3 hN0
  have op3 : tagAt o g (L, 1) p = (L, 0) := by rw [tagAt_other _ _ hgp]; exact op
  have hs45 : Step (Only L) w3 (tagAt o g (L, 1)) ((w3.setCell ⟨p, 6, none⟩ (.slice (some ⟨g, 0, none⟩) (m.records.length + 1) cap)).setCell ⟨p, 5, none⟩ (.int .i64 (k : Int))) (tagAt o g (L, 1)) :=
    ((Step.refl (Only L) w3 (tagAt o g (L, 1))).setCell (a := ⟨p, 6, none⟩) _ (.inl (by show (tagAt o g (L, 1) p).1 = L; rw [op3]))).setCell (a := ⟨p, 5, none⟩) _ (.inl (by show (tagAt o g (L, 1) p).1 = L; rw [op3]))
  refine ⟨rv, _, w3, tagAt o g (L, 1), hc6, own_form hro, hrun, ⟨_, _, rfl⟩, hs3, hp3, hs3.trans hs45, ?_⟩
  refine ⟨.slice (some ⟨g, 0, none⟩) (m.records.length + 1) cap, vs ++ [.slice xa r.length xc], ?_, ?_, hvs3.step hs45 hN0, op3, ?_, hwf⟩
  · have := heap_setCell_at (i := 5) (.int .i64 (k : Int)) (heap_setCell_at (i := 6) (.slice (some ⟨g, 0, none⟩) (m.records.length + 1) cap) (hp3.trans hp))
    exact this
  · have : (m.records ++ [r]).length = m.records.length + 1 := by simp
    show World.ownsRow _ 0 28 1 _ (m.records ++ [r]).length _
    rw [this]
    refine ownsRow_same hown3 fun k hk => ?_
    simp only [Value.ownBlock, Option.some.injEq] at hk
    subst hk
    rw [Below.heap_setCell _ _ _ _ (Ne.symm hgp), Below.heap_setCell _ _ _ _ (Ne.symm hgp)]
  · intro k hk
    simp only [Value.ownBlock, Option.some.injEq] at hk
    subst hk; exact tagAt_same _ _ _
end Go.Proofs.YtfgggkheadfiaaaR
