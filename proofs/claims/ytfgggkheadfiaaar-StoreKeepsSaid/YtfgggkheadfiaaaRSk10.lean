/- Contract of store.replay. -/
import Derived.Defers
import Derived.Recover
import Derived.Test.YtfgggkheadfiaaaRSk9
namespace Go.Proofs.YtfgggkheadfiaaaR
open Go Go.RowKit
attribute [local go_sem ↓] Go.wp_at_zero Go.wp_at_succ

def recOne (k : KeptM) (b : List UInt8) : Option KeptM :=
  let t := (RdM.mk b false).num 1
  if t.1.toNat % 256 = 2 then (if (k.recPromise t.2).2.done = 0 then some (k.recPromise t.2).1 else none)
  else if t.1.toNat % 256 = 3 then (if (k.recAdopt t.2).2.done = 0 then some (k.recAdopt t.2).1 else none)
  else if t.1.toNat % 256 = 4 then (if (k.recAppend t.2).2.done = 0 then some (k.recAppend t.2).1 else none)
  else none
def recAll : KeptM → List (List UInt8) → Option KeptM
  | k, [] => some k
  | k, b :: r => match recOne k b with
    | some k' => recAll k' r
    | none => none
def recFirst (b : List UInt8) : Option (BitVec 64 × KeptM) :=
  let t := (RdM.mk b false).num 1
  let a := t.2.num 8
  let p := a.2.num 8
  let c := p.2.num 8
  let l := c.2.lines
  if t.1.toNat % 256 = 1 ∧ l.2.done = 0 ∧ 0 < a.1.toNat then some (a.1, ⟨p.1, c.1, l.1⟩) else none
def replayM : List (List UInt8) → Option (BitVec 64 × KeptM)
  | [] => some (0, ⟨0, 0, []⟩)
  | b :: r => match recFirst b with
    | some (a, k) => (recAll k r).map fun k' => (a, k')
    | none => none
def doesMap : Obj := .map #[⟨.int .u8 2, .func (.func 124) #[] #[], 0⟩, ⟨.int .u8 3, .func (.func 125) #[] #[], 1⟩, ⟨.int .u8 4, .func (.func 126) #[] #[], 2⟩] 3
section
variable {P : Program} {ops : Array Oper} {Q : Exit → Act → World → Prop} {rest : List Oper} {d : Option Nat} {ty : TypeId} {ps : String} {af : Array _} {a : Act} {w w' : World} {v : Value}
theorem lit_insert {m k x : Operand} {t : TypeId} (hr : (Instr.mapUpdate t (a.eval m) (a.eval k) (a.eval x)).run P w = .ok () w') (h : wpList P ops Q rest (a.put d undef) w') :
    wpList P ops Q ({ dst := d, op := .insert t m k x, type := ty, pos := ps, after := af, guard := none } :: rest) a w :=
  wpList_plain rfl fun _ hK => by
    unfold Oper.wp execOp
    simp only [Sem.run_bind, hr, Result.andThen_ok, Sem.run_pure]
    exact hK _ _ h
theorem lit_makeMap {t : TypeId} (hr : (Instr.makeMap t none).run P w = .ok v w') (h : wpList P ops Q rest (a.put d v) w') :
    wpList P ops Q ({ dst := d, op := .makeMap t none, type := ty, pos := ps, after := af, guard := none } :: rest) a w :=
  wpList_plain rfl fun _ hK => by
    unfold Oper.wp execOp
    simp only [Option.map_none, Sem.run_bind, hr, Result.andThen_ok, Sem.run_pure]
    exact hK _ _ h
theorem lit_lookup {m k : Operand} {t : TypeId} {ok : Bool} (hr : (Instr.lookup t (a.eval m) (a.eval k) ok).run P w = .ok v w') (h : wpList P ops Q rest (a.put d v) w') :
    wpList P ops Q ({ dst := d, op := .lookup t m k ok, type := ty, pos := ps, after := af, guard := none } :: rest) a w :=
  wpList_plain rfl fun _ hK => by
    unfold Oper.wp execOp
    simp only [Sem.run_bind, hr, Result.andThen_ok, Sem.run_pure]
    exact hK _ _ h
end
theorem alloc_again (w : World) (o1 o2 : Obj) : ({ (w.alloc o1) with heap := (w.alloc o1).heap.setIfInBounds w.heap.size o2 } : World) = w.alloc o2 := by
  cases w
  simp only [World.alloc]
  congr 1
  apply Array.ext_getElem?
  intro i
  simp only [Array.getElem?_setIfInBounds, Array.getElem?_push, Array.size_push]
  split <;> rename_i h
  · subst h; simp
  · have : ¬ i = _ := fun h' => h h'.symm
    simp [this]
theorem run_make_map (w : World) : (Instr.makeMap 188 none).run Try.prog w = .ok (.map (some w.heap.size)) (w.alloc (.map #[] 0)) := by
  rfl
theorem run_map_up (w : World) (es : Array MapEntry) (clock : Nat) (k : Int) (v : Value) (hf : Instr.findNow (.int .u8) (.int .u8 k) es.toList 0 = some none) :
    (Instr.mapUpdate 188 (.map (some w.heap.size)) (.int .u8 k) v).run Try.prog (w.alloc (.map es clock)) = .ok () (w.alloc (.map (es.push ⟨.int .u8 k, v, clock⟩) (clock + 1))) := by
  have hb : (w.alloc (.map es clock)).heap[w.heap.size]? = some (.map es clock) := heap_alloc_new w _
  have hck : (Instr.checkKey false 10000 5 (.int .u8 k)).run Try.prog (w.alloc (.map es clock)) = .ok () (w.alloc (.map es clock)) := by
    unfold Instr.checkKey
    simp [run_underlying Try.underlying5]
  have hfk : (Instr.findKey 5 (.int .u8 k) es.toList).run Try.prog (w.alloc (.map es clock)) = .ok none (w.alloc (.map es clock)) := by
    simp [Instr.findKey, run_underlying Try.underlying5, hf]
  simp only [Instr.mapUpdate, Sem.run_bind, run_underlying Try.underlying188, Result.andThen_ok, MapKept.run_getObj_map hb, hck, hfk, MapKept.run_setObj_map _ hb]
  rw [alloc_again]
theorem run_map_get {w : World} {b : Nat} (hb : w.heap[b]? = some doesMap) : (∀ (f : Nat), (f = 2 ∨ f = 3 ∨ f = 4) → (Instr.lookup 188 (.map (some b)) (.int .u8 (f : Int)) true).run Try.prog w = .ok (.tuple #[.func (.func (f + 122)) #[] #[], .bool true]) w) := by
  intro f hf
  have hck : ∀ k : Int, (Instr.checkKey false 10000 5 (.int .u8 k)).run Try.prog w = .ok () w := fun k => by
    unfold Instr.checkKey
    simp [run_underlying Try.underlying5]
  unfold doesMap at hb
  rcases hf with rfl | rfl | rfl
  all_goals
    simp only [Instr.lookup, Sem.run_bind, run_underlying Try.underlying188, Result.andThen_ok, MapKept.run_getObj_map hb, Sem.run_pure, Instr.findKey, run_underlying Try.underlying5]
    simp [Instr.findNow, Instr.sameNow, hck]
theorem results_tmp_row {P : Program} {fn : Func} {p u : Tmp} {ty : TypeId} (h : fn.results = #[.tmp u, .cell p ty]) (tmps : Array Value) (w : World) (g : Nat) (t : TypeId) (cs : Array Value) (fr : Nat × Nat) (d : TypeDesc)
    (hp : tmps.getD p undef = .pointer (some ⟨g, 0, none⟩)) (hg : w.heap[g]? = some (.cells cs t fr))
    (hu : P.underlying ty = some d) (hd : (match d with | .struct _ | .array _ _ => true | _ => false) = true) (hi : (P.info? ty).map (·.size) = some cs.size) :
    (results fn tmps).run P w = .ok (.tuple #[tmps.getD u undef, .agg cs]) w := by
  rw [Array.getD_eq_getD_getElem?] at hp
  unfold results; rw [h]
  simp [hp, asAddr, run_loadVar_row w g t ty cs fr d hg hu hd hi]
theorem recAll_cons {k : KeptM} {b : List UInt8} {r : List (List UInt8)} {kf : KeptM} (h : recAll k (b :: r) = some kf) : ∃ k', recOne k b = some k' ∧ recAll k' r = some kf := by
  unfold recAll at h
  cases hk : recOne k b with
  | none => rw [hk] at h; cases h
  | some k' => rw [hk] at h; exact ⟨k', rfl, h⟩
set_option maxRecDepth 100000 in
set_option maxHeartbeats 3200000 in
theorem sreplay_nil (w : World) (o : Own) (a : Option Addr) (c : Nat) : Calls Try.prog 96 #[.slice a 0 c] w (Ret Nobody w o fun r w' o' => ∃ lv, r = .tuple #[.int .u64 0, keptV 0 0 lv] ∧ Lines w' o' w.heap.size lv [] ∧ o' = ext w o) := by
  have s1 := (Step.refl Nobody w o).alloc (.cells #[.int .u64 0, .int .u64 0, .slice none 0 0] 108) (0, 0)
  have b1 : (w.alloc (.cells #[.int .u64 0, .int .u64 0, .slice none 0 0] 108)).heap[w.heap.size]? = some (.cells [.int .u64 0, .int .u64 0, .slice none 0 0].toArray 108 (0, 0)) := heap_alloc_new w _
  have hal := hidden (run_alloc_zero (P := Try.prog) w 108 _ zc108)
  obtain ⟨hso, hsb⟩ := run_store_agg (P := Try.prog) (ty := 108) (vs := [.int .u64 0, .int .u64 0, .slice none 0 0]) b1 rfl (by kernel_rfl) rfl
  have hsoH := hidden hso
  have hstF := s1.setCells w.heap.size 0 [.int .u64 0, .int .u64 0, .slice none 0 0] (.inr (Nat.le_refl _))
  clear hso s1 b1
  go_enter Try.func96, Try.ntmps96
  go_wp2_with (first
    | ((with_reducible apply lit_alloc); exact hal.out; simp only [Act.put, List.setIfInBounds_toArray, List.set_cons_zero, List.set_cons_succ])
    | ((with_reducible apply lit_store); exact hsoH.out; simp only [Act.put]))
  refine bodyPost_ret (results_tmp_row rfl _ _ w.heap.size 108 _ (0, 0) _ rfl hsb Try.underlying108 rfl size108) rfl ?_
  exact ⟨_, ext w o, rfl, hstF.reown _ (fun k hk => if_pos hk), _, rfl, Lines.nil _ _ _, rfl⟩
theorem recFirst_some {b : List UInt8} {age : BitVec 64} {k : KeptM} (h : recFirst b = some (age, k)) (hb : b.length ≤ 1000000) :
    ∃ T m1 m2 P m3 C m4 L m5, (RdM.mk b false).num 1 = (T, m1) ∧ m1.num 8 = (age, m2) ∧ m2.num 8 = (P, m3) ∧ m3.num 8 = (C, m4) ∧ m4.lines = (L, m5) ∧ T.toNat % 256 = 1 ∧ m5.done = 0 ∧ 0 < age.toNat ∧ k = ⟨P, C, L⟩ ∧
      m1.b.length ≤ 1000000 ∧ m2.b.length ≤ 1000000 ∧ m3.b.length ≤ 1000000 ∧ m4.b.length ≤ 1000000 ∧ L.length ≤ 256 := by
  unfold recFirst at h
  simp only at h
  have l1 := RdM.num_len 1 (RdM.mk b false)
  generalize h1 : (RdM.mk b false).num 1 = t at *
  obtain ⟨T, m1⟩ := t
  have l2 := RdM.num_len 8 m1
  simp only at h l1
  generalize h2 : m1.num 8 = t at *
  obtain ⟨A, m2⟩ := t
  have l3 := RdM.num_len 8 m2
  simp only at h l2
  generalize h3 : m2.num 8 = t at *
  obtain ⟨P, m3⟩ := t
  have l4 := RdM.num_len 8 m3
  simp only at h l3
  generalize h4 : m3.num 8 = t at *
  obtain ⟨C, m4⟩ := t
  have l5 := RdM.lines_len m4
  simp only at h l4
  generalize h5 : m4.lines = t at *
  obtain ⟨L, m5⟩ := t
  simp only at h l5
  split at h
  · rename_i hc
    simp only [Option.some.injEq, Prod.mk.injEq] at h
    obtain ⟨rfl, rfl⟩ := h
    exact ⟨T, m1, m2, P, m3, C, m4, L, m5, rfl, h2, h3, h4, h5, hc.1, hc.2.1, hc.2.2, rfl, by omega, by omega, by omega, by omega, l5.2⟩
  · cases h
theorem recOne_some {k k' : KeptM} {b : List UInt8} (h : recOne k b = some k') (hb : b.length ≤ 1000000) :
    ∃ T m1, (RdM.mk b false).num 1 = (T, m1) ∧ m1.b.length ≤ 1000000 ∧ ((T.toNat % 256 = 2 ∧ (k.recPromise m1).2.done = 0 ∧ k' = (k.recPromise m1).1) ∨ (T.toNat % 256 = 3 ∧ (k.recAdopt m1).2.done = 0 ∧ k' = (k.recAdopt m1).1) ∨ (T.toNat % 256 = 4 ∧ (k.recAppend m1).2.done = 0 ∧ k' = (k.recAppend m1).1)) := by
  unfold recOne at h
  simp only at h
  have l1 := RdM.num_len 1 (RdM.mk b false)
  generalize h1 : (RdM.mk b false).num 1 = t at *
  obtain ⟨T, m1⟩ := t
  simp only at h l1
  refine ⟨T, m1, rfl, by omega, ?_⟩
  split at h
  · rename_i hT
    split at h
    · rename_i hd; cases h; exact .inl ⟨hT, hd, rfl⟩
    · cases h
  · split at h
    · rename_i hT
      split at h
      · rename_i hd; cases h; exact .inr (.inl ⟨hT, hd, rfl⟩)
      · cases h
    · split at h
      · rename_i hT
        split at h
        · rename_i hd; cases h; exact .inr (.inr ⟨hT, hd, rfl⟩)
        · cases h
      · cases h
theorem recOne_lines {k k' : KeptM} {b : List UInt8} (h : recOne k b = some k') (hb : b.length ≤ 1000000) : k'.lines.length ≤ k.lines.length + 256 := by
  obtain ⟨T, m1, -, -, h⟩ := recOne_some h hb
  rcases h with ⟨-, -, rfl⟩ | ⟨-, -, rfl⟩ | ⟨-, -, rfl⟩
  · unfold KeptM.recPromise; simp
  · unfold KeptM.recAdopt
    have := (m1.num 8).2.lines_len.2
    simp only; omega
  · unfold KeptM.recAppend
    have := m1.lines_len.2
    simp only [List.length_append]; omega
theorem Step.still {T : Nat → Prop} {w w' : World} {o o' : Own} (h : Step T w o w' o') (hT : ∀ k, k < w.heap.size → ¬ T (o k).1) : Step Nobody w o w' o' :=
  ⟨h.os, h.tape, h.output, h.size, h.own, fun k hk _ => h.block k hk (hT k hk)⟩
theorem rows_rest {w : World} {o : Own} {b off n c : Nat} {vs : List Value} (h : Slc w o (.slice (some ⟨b, off, none⟩) n c) n vs) (hl : vs.length = n) (h1 : 1 ≤ n) :
    ∃ a' c', (Instr.sliceAt 83 (.slice (some ⟨b, off, none⟩) n c) (some (.int .i64 1)) none none).run Try.prog w = .ok (.slice a' (n - 1) c') w ∧ Slc w o (.slice a' (n - 1) c') (n - 1) (vs.drop 1) := by
  have hu : Try.prog.underlying 83 = some (.slice (Try.prog.elem 83)) := by kernel_rfl
  have hsz : (sizeOf (Try.prog.elem 83)).run Try.prog w = .ok 1 w := by
    have : Try.prog.elem 83 = 28 := by kernel_rfl
    rw [this]
    have h5 : (Try.prog.info? 28).map (·.size) = some 1 := by kernel_rfl
    cases hq : Try.prog.info? 28 with
    | none => simp [hq] at h5
    | some i => simp [hq] at h5; simp [sizeOf, typeInfo, hq, h5]
  rcases h with ⟨⟨a, c, hq⟩, h0, _⟩ | ⟨b', off', cap, hq, hl', hm, ho, hb, hr⟩
  · omega
  · cases hq
    refine ⟨if c = 1 then some ⟨b, off, none⟩ else some ⟨b, off + 1, none⟩, c - 1, ?_, ?_⟩
    · rw [run_sliceAt_slice _ _ _ _ _ _ hu, run_slice_l w 83 _ n c hu .i64 1 (by omega) (by omega), hsz]
      simp only [Result.andThen_ok, sliced, Option.map_some, Int.toNat_one, addr_add, Nat.mul_one]
    · by_cases hn1 : n = 1
      · subst hn1
        exact .inl ⟨⟨_, _, rfl⟩, rfl, by rw [List.drop_eq_nil_of_le (by omega)]⟩
      · rw [if_neg (by omega)]
        refine .inr ⟨b, off + 1, c - 1, rfl, by omega, by omega, ho, hb, ?_⟩
        have := range_part hr 1 (n - 1)
        rw [List.take_of_length_le (by rw [List.length_drop]; omega)] at this
        exact this
section
variable {w : World} {o : Own} {v : Value} {vs : List Value} {bs : List (List UInt8)} {age : BitVec 64} {kf : KeptM}
set_option maxRecDepth 100000 in
set_option maxHeartbeats 6400000 in
theorem sreplay_cons {b0 : List UInt8} (hv : Slc w o v (bs.length + 1) vs) (hrb : RowsB w o vs (b0 :: bs)) (hbl : ∀ b ∈ b0 :: bs, b.length ≤ 1000000) (hlen : bs.length < 300) (hm : replayM (b0 :: bs) = some (age, kf)) :
    Calls Try.prog 96 #[v] w (Ret Nobody w o fun r w' o' => ∃ lv, r = .tuple #[.int .u64 (age.toNat : Int), keptV kf.promised kf.current lv] ∧ Lines w' o' w.heap.size lv kf.lines ∧ o' = ext w o) := by
  obtain ⟨M, hM0, hM⟩ := tag_bound o 1 w.heap.size
  have ht : Tg (M + 1) (M + 2) (M + 3) := ⟨by omega, by omega, by omega, by omega, by omega, by omega⟩
  have hfr : ∀ k, k < w.heap.size → ¬ In3 (M + 1) (M + 2) (M + 3) (o k).1 := fun k hk h => by
    have := hM k hk
    unfold In3 at h; omega
  have hnY : ¬ In3 (M + 1) (M + 2) (M + 3) (M + 4) := fun h => by unfold In3 at h; omega
  have hY0 : M + 4 ≠ 0 := by omega
  generalize M + 1 = K at ht hfr hnY
  generalize M + 2 = X at ht hfr hnY
  generalize M + 3 = Z at ht hfr hnY
  generalize M + 4 = Y at hnY hY0
  clear hM hM0 M
  -- the first record
  have hf : ∃ k, recFirst b0 = some (age, k) ∧ recAll k bs = some kf := by
    simp only [replayM] at hm
    cases hr : recFirst b0 with
    | none => rw [hr] at hm; cases hm
    | some q =>
      obtain ⟨a, k⟩ := q
      rw [hr] at hm
      simp only [Option.map_eq_some_iff, Prod.mk.injEq] at hm
      obtain ⟨k', h1, h2, h3⟩ := hm
      subst h2 h3; exact ⟨k, rfl, h1⟩
  obtain ⟨k0, hf0, hall⟩ := hf
  clear hm
  obtain ⟨n, hn⟩ : ∃ n, bs.length + 1 = n := ⟨_, rfl⟩
  rw [hn] at hv
  obtain ⟨va, vc, rfl⟩ := slc_form hv
  have hvl : vs.length = n := by rw [hrb.1, ← hn]; rfl
  obtain ⟨e0, he0⟩ : ∃ e0, vs[0]? = some e0 := ⟨_, List.getElem?_eq_getElem (by omega)⟩
  have hB0 : Bytes w o e0 b0 := hrb.2 0 e0 b0 he0 rfl
  obtain ⟨rb, roff, rfl, hc0, hrlt, hro⟩ := hv.cell 0 he0
  obtain ⟨ea, ec, rfl⟩ := slc_form hB0
  -- the variables
  have s1 := (Step.refl Nobody w o).alloc (.cells #[.int .u64 0, .int .u64 0, .slice none 0 0] 108) (Y, 0)
  have hal := hidden (run_alloc_zero (P := Try.prog) w 108 _ zc108)
  have hb3 : (w.alloc (.cells #[.int .u64 0, .int .u64 0, .slice none 0 0] 108)).heap[w.heap.size]? = some (.cells [.int .u64 0, .int .u64 0, .slice none 0 0].toArray 108 (0, 0)) := heap_alloc_new w _
  have hm0 := hidden (run_make_map (w.alloc (.cells #[.int .u64 0, .int .u64 0, .slice none 0 0] 108)))
  have hm1 := hidden (run_map_up (w.alloc (.cells #[.int .u64 0, .int .u64 0, .slice none 0 0] 108)) #[] 0 2 (.func (.func 124) #[] #[]) rfl)
  have hm2 := hidden (run_map_up (w.alloc (.cells #[.int .u64 0, .int .u64 0, .slice none 0 0] 108)) #[⟨.int .u8 2, .func (.func 124) #[] #[], 0⟩] 1 3 (.func (.func 125) #[] #[]) rfl)
  have hm3 := hidden (run_map_up (w.alloc (.cells #[.int .u64 0, .int .u64 0, .slice none 0 0] 108)) #[⟨.int .u8 2, .func (.func 124) #[] #[], 0⟩, ⟨.int .u8 3, .func (.func 125) #[] #[], 1⟩] 2 4 (.func (.func 126) #[] #[]) rfl)
  have s2 := s1.alloc doesMap (0, 0)
  have hmb : ((w.alloc (.cells #[.int .u64 0, .int .u64 0, .slice none 0 0] 108)).alloc doesMap).heap[(w.alloc (.cells #[.int .u64 0, .int .u64 0, .slice none 0 0] 108)).heap.size]? = some doesMap := heap_alloc_new _ _
  have hmo : tagAt (tagAt o w.heap.size (Y, 0)) (w.alloc (.cells #[.int .u64 0, .int .u64 0, .slice none 0 0] 108)).heap.size (0, 0) (w.alloc (.cells #[.int .u64 0, .int .u64 0, .slice none 0 0] 108)).heap.size = (0, 0) := tagAt_same _ _ _
  have hb3' := (Below.heap_alloc (w.alloc (.cells #[.int .u64 0, .int .u64 0, .slice none 0 0] 108)) doesMap w.heap.size (by simp)).trans hb3
  have hb3o : tagAt (tagAt o w.heap.size (Y, 0)) (w.alloc (.cells #[.int .u64 0, .int .u64 0, .slice none 0 0] 108)).heap.size (0, 0) w.heap.size = (Y, 0) := by rw [tagAt_other _ _ (by simp)]; exact tagAt_same _ _ _
  generalize tagAt (tagAt o w.heap.size (Y, 0)) (w.alloc (.cells #[.int .u64 0, .int .u64 0, .slice none 0 0] 108)).heap.size (0, 0) = o2 at *
  have hmv : Value.map (some (w.alloc (.cells #[.int .u64 0, .int .u64 0, .slice none 0 0] 108)).heap.size) = .map (some (w.heap.size + 1)) := by simp
  have hmbs : (w.alloc (.cells #[.int .u64 0, .int .u64 0, .slice none 0 0] 108)).heap.size = w.heap.size + 1 := by simp
  rw [hmbs] at hmb hmo
  obtain ⟨W1, hW1⟩ : ∃ W1, w.alloc (.cells #[.int .u64 0, .int .u64 0, .slice none 0 0] 108) = W1 := ⟨_, rfl⟩
  obtain ⟨W2, hW2⟩ : ∃ W2, W1.alloc doesMap = W2 := ⟨_, rfl⟩
  rw [hW1] at hal hm0 hm1 hm2 hm3 s2 hmb hb3' hmbs
  rw [hW2] at s2 hmb hb3'
  rw [hmbs] at hm0 hm1 hm2 hm3
  have hm3 := hidden (show Sem.run Try.prog (Instr.mapUpdate 188 (.map (some (w.heap.size + 1))) (.int .u8 4) (.func (.func 126) #[] #[])) _ = Result.ok () W2 from hW2 ▸ hm3.out)
  have hst2 := s2
  have c20 := (hB0.step hst2 (fun h => h))
  have hcell0 : W2.cell? ⟨rb, roff, none⟩ = some (.slice ea b0.length ec) := by
    obtain ⟨b', off', h1, h2, -, -⟩ := (hv.step hst2 (fun h => h)).cell 0 he0
    cases h1; exact h2
  have hnI : ((n : Int) == 0) = false := by simp; omega
  have hnI2 : (0 : Int) < n := by omega
  have hnew := hidden (rdnew_any Z c20 (hbl b0 (by simp)))
  have hvH := hidden (hv.step hst2 (fun h => h))
  have hrbH := hidden (hrb.step hst2 (fun h => h))
  have hstH := hidden (hst2)
  have hmbH := hidden (And.intro hmb hmo)
  have hb3H := hidden (And.intro hb3' hb3o)
  have htH := hidden ht
  have hfrH := hidden hfr
  have hblH := hidden hbl
  have hf0H := hidden hf0
  have hallH := hidden hall
  have hvlH := hidden hvl
  have hnH := hidden hn
  have hlenH := hidden hlen
  clear hv hrb c20 s1 s2 hst2 hmb hmo hb3' hb3o hb3 ht hfr hbl hf0 hall hB0 he0 hc0 hmv hW2 hvl hn hlen
  go_enter Try.func96, Try.ntmps96
  go_wp2_with (first
    | ((with_reducible apply lit_alloc); exact hal.out; simp only [Act.put, List.setIfInBounds_toArray, List.set_cons_zero, List.set_cons_succ])
    | ((with_reducible apply lit_makeMap); exact hm0.out; simp only [Act.put, List.setIfInBounds_toArray, List.set_cons_zero, List.set_cons_succ])
    | ((with_reducible apply lit_insert); (first | exact hm1.out | exact hm2.out | exact hm3.out); simp only [Act.put]))
  refine hnew.out.mono ?_; rintro e w3 ⟨v3, o3, rfl, hs3, p, hpge, rfl, hr3⟩
  obtain ⟨T, m1, m2, P, m3, C, m4, L, m5, q1, q2, q3, q4, q5, qT, qD, qA, rfl, n1, n2, n3, n4, nL⟩ := recFirst_some hf0H.out (hblH.out b0 (by simp))
  have hby := hidden (rbyte_any hr3 htH.out.z0 (hblH.out b0 (by simp)))
  rw [q1] at hby
  simp only [qT] at hby
  have st3 := hidden (hstH.out.trans hs3)
  have qA' := hidden qA
  have q2H := hidden q2
  have q3H := hidden q3
  have q4H := hidden q4
  have q5H := hidden q5
  have qDH := hidden qD
  clear q1 q2 q3 q4 q5 qD qT hr3 hpge hm0 hm1 hm2 hm3 hal hnew hcell0 qA
  have g3 := hidden (And.intro (hvH.out.step hs3 (fun h => h)) (And.intro (hrbH.out.step hs3 (fun h => h)) (And.intro ((hs3.block _ (lt_of_block hmbH.out.1) (fun h => h)).trans hmbH.out.1) ((hs3.block _ (lt_of_block hb3H.out.1) (fun h => h)).trans hb3H.out.1))))
  have g3o := hidden (And.intro ((hs3.own _ (lt_of_block hmbH.out.1)).trans hmbH.out.2) ((hs3.own _ (lt_of_block hb3H.out.1)).trans hb3H.out.2))
  clear hvH hrbH hmbH hb3H hstH hs3
  go_wp2_with fail
  refine hby.out.mono ?_; rintro e w4 ⟨v4, o4, rfl, hs4, rfl, hr4⟩
  clear hby
  go_wp2_with fail
  refine (must_any w4).mono ?_; rintro e w4' ⟨rfl, rfl⟩
  have hu := hidden (ruint_any hr4 htH.out.z0 n1)
  rw [q2H.out] at hu
  clear hr4
  go_wp2_with fail
  refine hu.out.mono ?_; rintro e w5 ⟨v5, o5, rfl, hs5, rfl, hr5⟩
  clear hu
  have hu := hidden (ruint_any hr5 htH.out.z0 n2)
  rw [q3H.out] at hu
  clear hr5
  go_wp2_with fail
  refine hu.out.mono ?_; rintro e w6 ⟨v6, o6, rfl, hs6, rfl, hr6⟩
  clear hu
  have hu := hidden (ruint_any hr6 htH.out.z0 n3)
  rw [q4H.out] at hu
  clear hr6
  go_wp2_with fail
  refine hu.out.mono ?_; rintro e w7 ⟨v7, o7, rfl, hs7, rfl, hr7⟩
  clear hu
  have hsZ := hidden (((hs4.trans hs5).trans hs6).trans hs7)
  clear hs4 hs5 hs6 hs7
  have hal := hidden (run_alloc_zero (P := Try.prog) w7 108 _ zc108)
  have s8 := (Step.refl Nobody w7 o7).alloc (.cells #[.int .u64 0, .int .u64 0, .slice none 0 0] 108) (K, 0)
  have b8 : (w7.alloc (.cells #[.int .u64 0, .int .u64 0, .slice none 0 0] 108)).heap[w7.heap.size]? = some (.cells [.int .u64 0, .int .u64 0, .slice none 0 0].toArray 108 (0, 0)) := heap_alloc_new w7 _
  have o8 : tagAt o7 w7.heap.size (K, 0) w7.heap.size = (K, 0) := tagAt_same _ _ _
  obtain ⟨hso, hsb⟩ := run_store_agg (P := Try.prog) (ty := 108) (vs := [.int .u64 (P.toNat : Int), .int .u64 (C.toNat : Int), .slice none 0 0]) b8 rfl (by kernel_rfl) rfl
  have hsoH := hidden hso
  have s9 := (Step.refl (Only K) (w7.alloc (.cells #[.int .u64 0, .int .u64 0, .slice none 0 0] 108)) (tagAt o7 w7.heap.size (K, 0))).setCells w7.heap.size 0 [.int .u64 (P.toNat : Int), .int .u64 (C.toNat : Int), .slice none 0 0] (.inl (by show (tagAt o7 w7.heap.size (K, 0) w7.heap.size).1 = K; rw [o8]))
  have hr9 := (hr7.step s8 (fun h => h) (fun h => h)).step s9 (fun h => htH.out.kz h.symm) (fun h => htH.out.k0 h.symm)
  have sKZ := hidden ((s8.mono (T' := In3 K X Z) (fun _ h => h.elim)).trans (s9.mono (fun _ h => .inl h)))
  have hbs : w7.heap.size < ((w7.alloc (.cells #[.int .u64 0, .int .u64 0, .slice none 0 0] 108)).setCells w7.heap.size 0 [.int .u64 (P.toNat : Int), .int .u64 (C.toNat : Int), .slice none 0 0]).heap.size := lt_of_block hsb
  generalize tagAt o7 w7.heap.size (K, 0) = o8' at *
  obtain ⟨W8, hW8⟩ : ∃ W8, (w7.alloc (.cells #[.int .u64 0, .int .u64 0, .slice none 0 0] 108)).setCells w7.heap.size 0 [.int .u64 (P.toNat : Int), .int .u64 (C.toNat : Int), .slice none 0 0] = W8 := ⟨_, rfl⟩
  rw [hW8] at hsoH hsb hr9 sKZ hbs
  clear hso s8 s9 hr7 b8 hW8
  obtain ⟨kb, hkb⟩ : ∃ kb, w7.heap.size = kb := ⟨_, rfl⟩
  rw [hkb] at hsoH hsb hbs o8 hal
  have hl := hidden (rread_lines (X := X) hr9 htH.out.z0 htH.out.x0 htH.out.xz n4)
  rw [q5H.out] at hl
  clear hr9
  go_wp2_with (first
    | ((with_reducible apply lit_alloc); exact hal.out; simp only [Act.put, List.setIfInBounds_toArray, List.set_cons_zero, List.set_cons_succ])
    | ((with_reducible apply lit_store); exact hsoH.out; simp only [Act.put]))
  refine hl.out.mono ?_; rintro e w9 ⟨v9, o9, rfl, hs9, hrow9, hr9⟩
  have b9 := (hs9.block kb hbs (by rw [o8]; exact fun h => htH.out.kz h)).trans hsb
  have k9 : o9 kb = (K, 0) := (hs9.own kb hbs).trans o8
  obtain ⟨la, lc, rfl⟩ := hrow9.form
  have hset := (Step.refl (Only K) w9 o9).setCell (a := ⟨kb, 2, none⟩) (.slice la L.length lc) (.inl (by show (o9 kb).1 = K; rw [k9]))
  have h1' := heap_setCell_at (cs := [_, _, _]) (i := 2) (.slice la L.length lc) b9
  have f9 : w9.frozen? ⟨kb, 2, none⟩ = false := free_of_block (cs := [_, _, _]) b9 2
  have c9 : w9.cell? ⟨kb, 2, none⟩ = some (.slice none 0 0) := cell_of_block (cs := [_, _, _]) b9 2
  have hr10 := hr9.step hset (fun h => htH.out.kz h.symm) (fun h => htH.out.k0 h.symm)
  have hkbw : w.heap.size ≤ kb := by
    have := st3.out.size; have := hsZ.out.size; omega
  have hkp : KpAt (w9.setCell ⟨kb, 2, none⟩ (.slice la L.length lc)) o9 K X kb w.heap.size ⟨P, C, L⟩ := ⟨_, h1', k9, by
    obtain ⟨cs, y1, y2, y3, y4⟩ := hrow9.step hset (fun h => htH.out.kx h.symm) (fun h => htH.out.k0 h.symm)
    exact ⟨cs, ownsRow_low y1 (by omega), y2, y3, fun u hu => (y4 u hu).low (by omega)⟩⟩
  have hstZ := ((hsZ.out.mono (T' := In3 K X Z) (fun _ h => .inr (.inr h))).trans sKZ.out).trans ((hs9.mono (T' := In3 K X Z) (fun _ h => .inr (.inr h))).trans (hset.mono (T' := In3 K X Z) (fun _ h => .inl h)))
  have hn0 : ¬ In3 K X Z 0 := fun h => by
    have := htH.out.k0; have := htH.out.x0; have := htH.out.z0
    unfold In3 at h; omega
  have hstA := hidden ((st3.out.mono (T' := In3 K X Z) (fun _ h => h.elim)).trans hstZ)
  have g10 := hidden (show Slc (w9.setCell ⟨kb, 2, none⟩ (.slice la L.length lc)) o9 (.slice (some ⟨rb, roff, none⟩) n vc) n vs ∧ RowsB (w9.setCell ⟨kb, 2, none⟩ (.slice la L.length lc)) o9 vs (b0 :: bs) ∧ ((w9.setCell ⟨kb, 2, none⟩ (.slice la L.length lc)).heap[w.heap.size + 1]? = some doesMap ∧ o9 (w.heap.size + 1) = (0, 0)) ∧
      ((w9.setCell ⟨kb, 2, none⟩ (.slice la L.length lc)).heap[w.heap.size]? = some (.cells #[.int .u64 0, .int .u64 0, .slice none 0 0] 108) ∧ o9 w.heap.size = (Y, 0)) from
    ⟨g3.out.1.step hstZ hn0, g3.out.2.1.step hstZ hn0, ⟨(hstZ.block _ (lt_of_block g3.out.2.2.1) (by rw [g3o.out.1]; exact hn0)).trans g3.out.2.2.1, (hstZ.own _ (lt_of_block g3.out.2.2.1)).trans g3o.out.1⟩,
      (hstZ.block _ (lt_of_block g3.out.2.2.2) (by rw [g3o.out.2]; exact hnY)).trans g3.out.2.2.2, (hstZ.own _ (lt_of_block g3.out.2.2.2)).trans g3o.out.2⟩)
  obtain ⟨W9, hW9⟩ : ∃ W9, w9.setCell ⟨kb, 2, none⟩ (.slice la L.length lc) = W9 := ⟨_, rfl⟩
  rw [hW9] at hr10 hkp hstA g10
  have hW9H := hidden hW9
  have hkpH := hidden hkp
  have hd := hidden (rdone_any hr10)
  rw [qDH.out] at hd
  clear hs9 hrow9 hr9 b9 hset h1' hr10 hkp hstZ hl hW9 sKZ hsb o8 hsZ g3 g3o st3
  go_wp2_with fail
  rw [hW9H.out]
  refine hd.out.mono ?_; rintro e w' ⟨rfl, rfl⟩
  have qAN : decide (0 < age.toNat) = true := decide_eq_true qA'.out
  have qAI2 : (age.toNat : Int) < 18446744073709551616 := by have := age.isLt; omega
  go_wp2_with fail
  refine (must_any W9).mono ?_; rintro e w' ⟨rfl, rfl⟩
  clear qAN qAI2
  have hN : n - 1 = bs.length := by have := hnH.out; omega
  obtain ⟨ra, rc, hsl, hrest⟩ := rows_rest g10.out.1 hvlH.out (by omega)
  rw [hN] at hsl hrest
  have hslH := hidden hsl
  have hB : RowsB W9 o9 (vs.drop 1) bs := ⟨hN ▸ (by rw [List.length_drop, hvlH.out]), fun i u l hu hl => g10.out.2.1.2 (i + 1) u l (by rw [List.getElem?_drop] at hu; rw [Nat.add_comm]; exact hu) (by simpa using hl)⟩
  have hblB : ∀ b ∈ bs, b.length ≤ 1000000 := fun b hb => hblH.out b (List.mem_cons_of_mem _ hb)
  have hNb := hlenH.out
  obtain ⟨us, hus⟩ : ∃ us, vs.drop 1 = us := ⟨_, rfl⟩
  rw [hus] at hB hrest
  obtain ⟨N, hNN⟩ : ∃ N, bs.length = N := ⟨_, rfl⟩
  rw [hNN] at hslH hrest hNb
  have hmb10 := hidden g10.out.2.2
  have hNI : (0 : Int) ≤ (N : Int) ∧ (N : Int) < 300 := by omega
  clear hsl g10 hN hus hvlH hnH hlenH hblH hnI hnI2 hf0H q2H q3H q4H q5H qDH hd k9
  go_wp2_with ((with_reducible apply lit_slice); exact hslH.out; simp only [Act.put, List.setIfInBounds_toArray, List.set_cons_zero, List.set_cons_succ])
  go_loopw [48] (fun i wr => ∃ (k : Nat) (oj : Own) (kk : KeptM), k ≤ N ∧ i = .int .i64 k ∧ KpAt wr oj K X kb w.heap.size kk ∧ recAll kk (bs.drop k) = some kf ∧ kk.lines.length ≤ 256 * (k + 1) ∧ Slc wr oj (.slice ra N rc) N us ∧ RowsB wr oj us bs ∧
    ((wr.heap[w.heap.size + 1]? = some doesMap ∧ oj (w.heap.size + 1) = (0, 0)) ∧ wr.heap[w.heap.size]? = some (.cells #[.int .u64 0, .int .u64 0, .slice none 0 0] 108) ∧ oj w.heap.size = (Y, 0)) ∧ Step (In3 K X Z) w o wr oj) (fun i _ => N - (intOf i).toNat)
  case atStart => exact ⟨0, o9, _, by omega, rfl, hkpH.out, hallH.out, by simp; omega, hrest, hB, hmb10.out, hstA.out⟩
  case round =>
    obtain ⟨k, oj, kk, hk, rfl, hkk, hrec, hkl, hsv, hsb, hmbs2, hst⟩ := hrel
    clear hkpH hallH hmb10 hstA hrest hB hslH hW9H hal hsoH f9 c9 W9
    by_cases hlt : k < N
    · have hltI : (k : Int) < N := by omega
      have hulen : us.length = N := by rw [hsb.1, hNN]
      obtain ⟨e0, he0⟩ : ∃ e0, us[k]? = some e0 := ⟨_, List.getElem?_eq_getElem (by omega)⟩
      obtain ⟨b, hb⟩ : ∃ b, bs[k]? = some b := ⟨_, List.getElem?_eq_getElem (by omega)⟩
      have hBk := hsb.2 k e0 b he0 hb
      have hbl := hblB b (List.mem_of_getElem? hb)
      obtain ⟨rb2, ro2, rfl, hcell, -, -⟩ := hsv.cell k he0
      obtain ⟨ea2, ec2, rfl⟩ := slc_form hBk
      have hd1 : bs.drop k = b :: bs.drop (k + 1) := by
        rw [List.drop_eq_getElem_cons (by omega)]
        rw [List.getElem?_eq_getElem (by omega)] at hb
        rw [← Option.some.inj hb]
      rw [hd1] at hrec
      obtain ⟨kk2, hone, hrec2⟩ := recAll_cons hrec
      have hkl2 := recOne_lines hone hbl
      obtain ⟨T, m1, hq1, hm1, hcs⟩ := recOne_some hone hbl
      have hnew := hidden (rdnew_any Z hBk hbl)
      have hG := hidden (And.intro hsv (And.intro hsb hmbs2))
      have hkkH := hidden hkk
      have hstH := hidden hst
      have hr2H := hidden hrec2
      have hcsH := hidden hcs
      have hq1H := hidden hq1
      have hblBH := hidden hblB
      clear hsv hsb hmbs2 hkk hst hrec2 hcs hq1 hrec hd1 hone hblB hb he0 hBk
      go_wp2_with fail
      refine hnew.out.mono ?_; rintro e w2 ⟨v2, o2, rfl, hs2, p2, -, rfl, hr2⟩
      have hby := hidden (rbyte_any hr2 htH.out.z0 hbl)
      rw [hq1H.out] at hby
      have hs2H := hidden (hs2.mono (T' := In3 K X Z) (fun _ h => h.elim))
      have hkk2 := hidden (hkkH.out.step hs2 (fun h => h) (fun h => h) (fun h => h))
      clear hnew hr2 hs2
      rcases hcsH.out with ⟨hT, hd, hk'⟩ | ⟨hT, hd, hk'⟩ | ⟨hT, hd, hk'⟩
      · simp only [hT] at hby
        have hkF := hk'
        have hdH := hidden hd
        clear hT hd hk'
        go_wp2_with fail
        refine hby.out.mono ?_; rintro e w3 ⟨v3, o3, rfl, hs3, rfl, hr3⟩
        have hs3' := hs2H.out.trans (hs3.mono (T' := In3 K X Z) (fun _ h => .inr (.inr h)))
        have hmb3 : w3.heap[w.heap.size + 1]? = some doesMap := (hs3'.block _ (lt_of_block hG.out.2.2.1.1) (by rw [hG.out.2.2.1.2]; exact hn0)).trans hG.out.2.2.1.1
        have hlk := hidden (show (Instr.lookup 188 (.map (some (w.heap.size + 1))) (.int .u8 2) true).run Try.prog w3 = .ok (.tuple #[.func (.func 124) #[] #[], .bool true]) w3 from run_map_get hmb3 2 (by omega))
        have hkk3 := hkk2.out.step hs3 (fun h => htH.out.kz h) (fun h => htH.out.xz h) (fun h => htH.out.z0 h.symm)
        have hbz : w.heap.size ≤ w3.heap.size := (hstH.out.trans hs3').size
        have hcall := hidden (rpromise_any htH.out hkk3 hr3 hm1)
        have hs3H := hidden hs3'
        clear hs3 hs3' hr3 hmb3 hkk3 hby
        go_wp2_with ((with_reducible apply lit_lookup); exact hlk.out; simp only [Act.put, List.setIfInBounds_toArray, List.set_cons_zero, List.set_cons_succ])
        refine (must_any w3).mono ?_; rintro e w' ⟨rfl, rfl⟩
        clear hlk
        go_wp2_with fail
        refine hcall.out.mono ?_; rintro e w4 ⟨v4, o4, rfl, hs4, rfl, hkk4, hr4⟩
        have hdn := hidden (rdone_any hr4)
        rw [hdH.out] at hdn
        have hs4H := hidden (hs3H.out.trans hs4)
        have hkk4H := hidden hkk4
        clear hcall hkk4 hr4 hs4
        go_wp2_with fail
        refine hdn.out.mono ?_; rintro e w' ⟨rfl, rfl⟩
        go_wp2_with fail
        refine (must_any w4).mono ?_; rintro e w' ⟨rfl, rfl⟩
        go_wp2_with fail
        go_roundw
        case rel =>
          refine ⟨k + 1, o4, kk2, by omega, by go_num, ?_, hr2H.out, by omega, hG.out.1.step hs4H.out hn0, hG.out.2.1.step hs4H.out hn0, ⟨⟨(hs4H.out.block _ (lt_of_block hG.out.2.2.1.1) (by rw [hG.out.2.2.1.2]; exact hn0)).trans hG.out.2.2.1.1, (hs4H.out.own _ (lt_of_block hG.out.2.2.1.1)).trans hG.out.2.2.1.2⟩,
            (hs4H.out.block _ (lt_of_block hG.out.2.2.2.1) (by rw [hG.out.2.2.2.2]; exact hnY)).trans hG.out.2.2.2.1, (hs4H.out.own _ (lt_of_block hG.out.2.2.2.1)).trans hG.out.2.2.2.2⟩, hstH.out.trans hs4H.out⟩
          rw [hkF]; exact hkk4H.out
        case measure => simp [intOf]; omega
      · simp only [hT] at hby
        have hkF := hk'
        have hdH := hidden hd
        clear hT hd hk'
        go_wp2_with fail
        refine hby.out.mono ?_; rintro e w3 ⟨v3, o3, rfl, hs3, rfl, hr3⟩
        have hs3' := hs2H.out.trans (hs3.mono (T' := In3 K X Z) (fun _ h => .inr (.inr h)))
        have hmb3 : w3.heap[w.heap.size + 1]? = some doesMap := (hs3'.block _ (lt_of_block hG.out.2.2.1.1) (by rw [hG.out.2.2.1.2]; exact hn0)).trans hG.out.2.2.1.1
        have hlk := hidden (show (Instr.lookup 188 (.map (some (w.heap.size + 1))) (.int .u8 3) true).run Try.prog w3 = .ok (.tuple #[.func (.func 125) #[] #[], .bool true]) w3 from run_map_get hmb3 3 (by omega))
        have hkk3 := hkk2.out.step hs3 (fun h => htH.out.kz h) (fun h => htH.out.xz h) (fun h => htH.out.z0 h.symm)
        have hbz : w.heap.size ≤ w3.heap.size := (hstH.out.trans hs3').size
        have hcall := hidden (radopt_any htH.out hkk3 hr3 hm1 hbz)
        have hs3H := hidden hs3'
        clear hs3 hs3' hr3 hmb3 hkk3 hby
        go_wp2_with ((with_reducible apply lit_lookup); exact hlk.out; simp only [Act.put, List.setIfInBounds_toArray, List.set_cons_zero, List.set_cons_succ])
        refine (must_any w3).mono ?_; rintro e w' ⟨rfl, rfl⟩
        clear hlk
        go_wp2_with fail
        refine hcall.out.mono ?_; rintro e w4 ⟨v4, o4, rfl, hs4, rfl, hkk4, hr4⟩
        have hdn := hidden (rdone_any hr4)
        rw [hdH.out] at hdn
        have hs4H := hidden (hs3H.out.trans hs4)
        have hkk4H := hidden hkk4
        clear hcall hkk4 hr4 hs4
        go_wp2_with fail
        refine hdn.out.mono ?_; rintro e w' ⟨rfl, rfl⟩
        go_wp2_with fail
        refine (must_any w4).mono ?_; rintro e w' ⟨rfl, rfl⟩
        go_wp2_with fail
        go_roundw
        case rel =>
          refine ⟨k + 1, o4, kk2, by omega, by go_num, ?_, hr2H.out, by omega, hG.out.1.step hs4H.out hn0, hG.out.2.1.step hs4H.out hn0, ⟨⟨(hs4H.out.block _ (lt_of_block hG.out.2.2.1.1) (by rw [hG.out.2.2.1.2]; exact hn0)).trans hG.out.2.2.1.1, (hs4H.out.own _ (lt_of_block hG.out.2.2.1.1)).trans hG.out.2.2.1.2⟩,
            (hs4H.out.block _ (lt_of_block hG.out.2.2.2.1) (by rw [hG.out.2.2.2.2]; exact hnY)).trans hG.out.2.2.2.1, (hs4H.out.own _ (lt_of_block hG.out.2.2.2.1)).trans hG.out.2.2.2.2⟩, hstH.out.trans hs4H.out⟩
          rw [hkF]; exact hkk4H.out
        case measure => simp [intOf]; omega
      · simp only [hT] at hby
        have hkF := hk'
        have hdH := hidden hd
        clear hT hd hk'
        go_wp2_with fail
        refine hby.out.mono ?_; rintro e w3 ⟨v3, o3, rfl, hs3, rfl, hr3⟩
        have hs3' := hs2H.out.trans (hs3.mono (T' := In3 K X Z) (fun _ h => .inr (.inr h)))
        have hmb3 : w3.heap[w.heap.size + 1]? = some doesMap := (hs3'.block _ (lt_of_block hG.out.2.2.1.1) (by rw [hG.out.2.2.1.2]; exact hn0)).trans hG.out.2.2.1.1
        have hlk := hidden (show (Instr.lookup 188 (.map (some (w.heap.size + 1))) (.int .u8 4) true).run Try.prog w3 = .ok (.tuple #[.func (.func 126) #[] #[], .bool true]) w3 from run_map_get hmb3 4 (by omega))
        have hkk3 := hkk2.out.step hs3 (fun h => htH.out.kz h) (fun h => htH.out.xz h) (fun h => htH.out.z0 h.symm)
        have hbz : w.heap.size ≤ w3.heap.size := (hstH.out.trans hs3').size
        have hcall := hidden (rappend_any htH.out hkk3 hr3 hm1 hbz (by omega))
        have hs3H := hidden hs3'
        clear hs3 hs3' hr3 hmb3 hkk3 hby
        go_wp2_with ((with_reducible apply lit_lookup); exact hlk.out; simp only [Act.put, List.setIfInBounds_toArray, List.set_cons_zero, List.set_cons_succ])
        refine (must_any w3).mono ?_; rintro e w' ⟨rfl, rfl⟩
        clear hlk
        go_wp2_with fail
        refine hcall.out.mono ?_; rintro e w4 ⟨v4, o4, rfl, hs4, rfl, hkk4, hr4⟩
        have hdn := hidden (rdone_any hr4)
        rw [hdH.out] at hdn
        have hs4H := hidden (hs3H.out.trans hs4)
        have hkk4H := hidden hkk4
        clear hcall hkk4 hr4 hs4
        go_wp2_with fail
        refine hdn.out.mono ?_; rintro e w' ⟨rfl, rfl⟩
        go_wp2_with fail
        refine (must_any w4).mono ?_; rintro e w' ⟨rfl, rfl⟩
        go_wp2_with fail
        go_roundw
        case rel =>
          refine ⟨k + 1, o4, kk2, by omega, by go_num, ?_, hr2H.out, by omega, hG.out.1.step hs4H.out hn0, hG.out.2.1.step hs4H.out hn0, ⟨⟨(hs4H.out.block _ (lt_of_block hG.out.2.2.1.1) (by rw [hG.out.2.2.1.2]; exact hn0)).trans hG.out.2.2.1.1, (hs4H.out.own _ (lt_of_block hG.out.2.2.1.1)).trans hG.out.2.2.1.2⟩,
            (hs4H.out.block _ (lt_of_block hG.out.2.2.2.1) (by rw [hG.out.2.2.2.2]; exact hnY)).trans hG.out.2.2.2.1, (hs4H.out.own _ (lt_of_block hG.out.2.2.2.1)).trans hG.out.2.2.2.2⟩, hstH.out.trans hs4H.out⟩
          rw [hkF]; exact hkk4H.out
        case measure => simp [intOf]; omega
    · obtain rfl : N = k := by omega
      have hkf : kk = kf := by
        rw [List.drop_eq_nil_of_le (by omega)] at hrec
        exact Option.some.inj hrec
      subst hkf
      obtain ⟨lv, hb7, ho7, hl7⟩ := hkk
      obtain ⟨lla, llc, rfl⟩ := hl7.form
      obtain ⟨hso, hsb3⟩ := run_store_agg (w := wr.drew) (P := Try.prog) (ty := 108) (vs := [.int .u64 (kk.promised.toNat : Int), .int .u64 (kk.current.toNat : Int), .slice lla kk.lines.length llc]) hmbs2.2.1 rfl (by kernel_rfl) rfl
      have hsoH := hidden hso
      have hstF := hidden ((hst.drew.setCells w.heap.size 0 [.int .u64 (kk.promised.toNat : Int), .int .u64 (kk.current.toNat : Int), .slice lla kk.lines.length llc] (.inr (Nat.le_refl _))).still hfrH.out)
      have hset := (Step.refl (Only Y) wr oj).drew.setCells w.heap.size 0 [.int .u64 (kk.promised.toNat : Int), .int .u64 (kk.current.toNat : Int), .slice lla kk.lines.length llc] (.inl (by show (oj w.heap.size).1 = Y; rw [hmbs2.2.2]))
      have hlF := hidden (show Lines (wr.drew.setCells w.heap.size 0 [.int .u64 (kk.promised.toNat : Int), .int .u64 (kk.current.toNat : Int), .slice lla kk.lines.length llc]) (ext w o) w.heap.size (.slice lla kk.lines.length llc) kk.lines from
        (hl7.step hset (fun h => hnY (.inr (.inl h.symm))) (fun h => hY0 h.symm)).lines (fun k hk => by unfold ext; rw [if_neg (by omega)]))
      have hS : wr.heap[kb]? = some (.cells [.int .u64 (kk.promised.toNat : Int), .int .u64 (kk.current.toNat : Int), .slice lla kk.lines.length llc].toArray 108 (0, 0)) := hb7
      clear hso hb7 hl7 hst hset hsv hsb hrec hkl
      go_wp2_with fail
      refine wp_region_need (fun w' => w'.heap[kb]? = some (.cells [.int .u64 (kk.promised.toNat : Int), .int .u64 (kk.current.toNat : Int), .slice lla kk.lines.length llc].toArray 108 (0, 0))) (fun i => decide (i < 3)) (by kernel_rfl) hS (fun hHeld => ?_)
      refine wpAnyN_tk (i := 0) (v := ?_) rfl (by kernel_rfl) (fun _ _ _ h => h) (Or.inl ⟨by rfl, ?_⟩) (by assumption) ?_
      rotate_left
      · intro w hSw; ((try dsimp only at hSw); go_simp; (try with_reducible rfl))
      simp only [Act.put, List.setIfInBounds_toArray, List.set_cons_zero, List.set_cons_succ]
      refine wpAnyN_tk (i := 1) (v := .agg [.int .u64 (kk.promised.toNat : Int), .int .u64 (kk.current.toNat : Int), .slice lla kk.lines.length llc].toArray) rfl (by kernel_rfl) (fun _ _ _ h => h) (yieldsIf_load_mid rfl 108 (.tmp 7) rfl kb 0 rfl [.int .u64 (kk.promised.toNat : Int), .int .u64 (kk.current.toNat : Int), .slice lla kk.lines.length llc] _ (fun w h => range_whole h) Try.underlying108 rfl (by kernel_rfl)) (by assumption) ?_
      simp only [Act.put, List.setIfInBounds_toArray, List.set_cons_zero, List.set_cons_succ]
      refine wpAnyN_tk (i := 2) (v := ?_) rfl (by kernel_rfl) (fun _ _ _ h => h) (Or.inl ⟨by rfl, ?_⟩) (by assumption) ?_
      rotate_left
      · intro w hSw; ((try dsimp only at hSw); go_simp; (try with_reducible rfl))
      simp only [Act.put, List.setIfInBounds_toArray, List.set_cons_zero, List.set_cons_succ]
      refine wpAnyN_one (i := 3) rfl (by kernel_rfl) ?_
      apply lit_store
      · exact hsoH.out
      simp only [Act.put]
      go_wp2_with fail
      refine ⟨fun h => by simp at h, ?_⟩
      refine wpAnyN_done (by kernel_rfl) ?_ _
      go_wp2_with fail
      refine bodyPost_ret (results_tmp_row rfl _ _ w.heap.size 108 _ (0, 0) _ rfl hsb3 Try.underlying108 rfl size108) rfl ?_
      exact ⟨_, ext w o, rfl, hstF.out.reown _ (fun k hk => if_pos hk), _, rfl, hlF.out, rfl⟩
theorem sreplay_any (hv : Slc w o v bs.length vs) (hrb : RowsB w o vs bs) (hbl : ∀ b ∈ bs, b.length ≤ 1000000) (hlen : bs.length ≤ 300) (hm : replayM bs = some (age, kf)) :
    Calls Try.prog 96 #[v] w (Ret Nobody w o fun r w' o' => ∃ lv, r = .tuple #[.int .u64 (age.toNat : Int), keptV kf.promised kf.current lv] ∧ Lines w' o' w.heap.size lv kf.lines ∧ o' = ext w o) := by
  cases bs with
  | nil =>
    obtain ⟨a, c, rfl⟩ := slc_form hv
    cases hm
    exact sreplay_nil w o a c
  | cons b0 r => exact sreplay_cons hv hrb hbl (by rw [List.length_cons] at hlen; omega) hm
end
end Go.Proofs.YtfgggkheadfiaaaR
/- Contract of store.Open. -/
namespace Go.Proofs.YtfgggkheadfiaaaR
open Go Go.RowKit
attribute [local go_sem ↓] Go.wp_at_zero Go.wp_at_succ

set_option maxRecDepth 100000 in
set_option maxHeartbeats 1600000 in
theorem catch_idle (p q : Value) (w : World) :
    CallsD Try.prog 94 #[p, q] .returning w fun e u' w' => e = .returned (.tuple #[]) ∧ u' = .returning ∧ w' = w := by
  have hta : (Instr.typeAssert .nilIface 20 23 true).run Try.prog w = .ok (.tuple #[.int .i64 0, .bool false]) w := by kernel_rfl
  refine callsD_of_wpS Try.func94 rfl fun c₀ cs hu => ?_
  apply wpS_seq
  apply wpS_region
  simp [wpOpsS, go_sem, recoverD, hu, Try.ntmps94, Exit.thenS, hta]
  apply wpS_seq
  apply wpS_region
  simp [wpOpsS, go_sem, Exit.thenS]
  refine wpS_cond (t := false) (by simp [Act.eval, Array.replicate]) ?_
  simp only [Bool.false_eq_true, if_false]
  refine wpS_of_wp (wp_skip ?_)
  cases c₀
  simp_all [bodyPostS, results, Try.results94]
section
variable {w : World} {o : Own} {D pd : Nat} {d : DiskM}
end
theorem leaves_congr {P : Program} {fn : Func} {t t' : Array Value} {R : Ending → World → Prop} (h : results fn t = results fn t') : ∀ (ds : List Deferred) (u : FrameMode) (w : World), Leaves P fn t R ds u w → Leaves P fn t' R ds u w
  | [], .returning, w, hl => by
    obtain ⟨v, h1, h2⟩ := hl
    exact ⟨v, by rw [← h]; exact h1, h2⟩
  | [], .panicking chain, w, hl => hl
  | [], .run, w, hl => hl
  | d :: ds, u, w, hl => by
    obtain ⟨h1, fv, cap, f, args, h2, h3, h4⟩ := hl
    refine ⟨h1, fv, cap, f, args, h2, h3, h4.mono ?_⟩
    intro e u' w' he
    cases e with
    | returned v => exact leaves_congr h ds _ _ he
    | panicked c => exact leaves_congr h ds _ _ he
    | outgrown => exact he
theorem panic_put {R : Ending → World → Prop} {c : List PanicEntry} {a : Act} {w : World} {d : Nat} {v : Value} (hd : d ≠ 2 ∧ d ≠ 3) (h : bodyPostD Try.prog Try.f53 R (.panic c) (a.put (some d) v) w) : bodyPostD Try.prog Try.f53 R (.panic c) a w := by
  refine leaves_congr ?_ _ _ _ h
  have e2 : (a.put (some d) v).tmps.getD 2 undef = a.tmps.getD 2 undef := by simp [Act.put, hd.1]
  have e3 : (a.put (some d) v).tmps.getD 3 undef = a.tmps.getD 3 undef := by simp [Act.put, hd.2]
  simp only [results, Try.results53]
  simp [Act.put, Array.getElem?_setIfInBounds, hd.1, hd.2]
theorem replay_zero {rs : List (List UInt8)} {k : KeptM} (h : replayM rs = some (0, k)) : k = ⟨0, 0, []⟩ := by
  cases rs with
  | nil => cases h; rfl
  | cons b r =>
    simp only [replayM] at h
    cases hr : recFirst b with
    | none => rw [hr] at h; cases h
    | some q =>
      obtain ⟨a, k'⟩ := q
      rw [hr] at h
      simp only [Option.map_eq_some_iff, Prod.mk.injEq] at h
      obtain ⟨k2, -, rfl, -⟩ := h
      unfold recFirst at hr
      simp only at hr
      split at hr
      · rename_i hc
        simp only [Option.some.injEq, Prod.mk.injEq] at hr
        have := hc.2.2
        rw [hr.1] at this
        simp at this
      · cases hr
/-- The store that Open reads: area 1's log is taken where it is younger. -/
def openS (d : DiskM) (h : Nat) (a0 a1 : LogM) (g0 g1 : BitVec 64) (k0 k1 : KeptM) : StoreM :=
  if g0.toNat < g1.toNat then ⟨a1, a0, d, h, g1, k1, false⟩ else ⟨a0, a1, d, h, g0, k0, false⟩
def OpenSt (w : World) (o : Own) (S A B D Y b2 ps pd base h : Nat) (d : DiskM) (a0 a1 : LogM) (g0 g1 : BitVec 64) (k0 k1 : KeptM) (k : Nat) : Prop :=
  ((w.heap[b2]? = some (.cells #[.pointer (some ⟨ps, 0, none⟩)] 90 (0, 0)) ∧ o b2 = (Y, 0)) ∧ (w.heap[b2 + 1]? = some (.cells #[.int .i64 0] 23 (0, 0)) ∧ o (b2 + 1) = (Y, 0)) ∧ DiskAt w o D pd d) ∧
  ((k = 0 ∧ w.heap[ps]? = some (.cells (storeCells pd (.pointer none) (.pointer none) h 0 0 0 0 (.slice none 0 0) false).toArray 156 (0, 0)) ∧ o ps = (S, 0)) ∨
   (k = 1 ∧ ∃ pa kv, (w.heap[ps]? = some (.cells (storeCells pd (.pointer (some ⟨pa, 0, none⟩)) (.pointer none) h 0 g0 k0.promised k0.current kv false).toArray 156 (0, 0)) ∧ o ps = (S, 0)) ∧ Lines w o base kv k0.lines ∧ LogAt w o A pa pd a0) ∨
   (k = 2 ∧ StoreAt w o S A B D ps pd base (openS d h a0 a1 g0 g1 k0 k1)))
section
variable {w : World} {o : Own} {D pd : Nat} {d : DiskM}
set_option maxRecDepth 100000 in
set_option maxHeartbeats 6400000 in
theorem sopen_any {S A B Y H : Nat} {g0 g1 : BitVec 64} {k0 k1 : KeptM} (htg : [0, S, A, B, D, Y].Nodup) (hD : DiskAt w o D pd d) (hd : d.dead = false) (hrow : d.row.length ≤ 1000000) (hn : 8 ≤ d.pages.length) (hn2 : d.pages.length ≤ 400) (hh : d.pages.length / 2 = H)
    (hN0 : LogM.newest (LogM.seenPages d 0 H) ≠ BitVec.allOnes 64) (hN1 : LogM.newest (LogM.seenPages d H H) ≠ BitVec.allOnes 64)
    (hr0 : replayM (LogM.ofPages 0 (LogM.seenPages d 0 H)).records = some (g0, k0)) (hr1 : replayM (LogM.ofPages H (LogM.seenPages d H H)).records = some (g1, k1)) :
    Calls Try.prog 53 #[.pointer (some ⟨pd, 0, none⟩)] w (Ret (fun t => t = S ∨ t = A ∨ t = B) w o fun v w' o' =>
      ∃ ps, w.heap.size ≤ ps ∧ v = .tuple #[.pointer (some ⟨ps, 0, none⟩), .int .i64 0] ∧ StoreAt w' o' S A B D ps pd w.heap.size (openS d H (LogM.ofPages 0 (LogM.seenPages d 0 H)) (LogM.ofPages H (LogM.seenPages d H H)) g0 g1 k0 k1)) := by
  have hmf : ∀ (fn : Fn) (first cap : Array Value) (w : World), (Instr.makeFunc fn first cap).run Try.prog w = .ok (.func fn first cap) w := fun _ _ _ _ => rfl
  simp only [List.nodup_cons, List.mem_cons, List.not_mem_nil, or_false, not_or, List.nodup_nil, and_true, not_false_eq_true] at htg
  have s1 := ((Step.refl Nobody w o).alloc (.cells #[.pointer none] 90) (0, 0)).alloc (.cells #[.int .i64 0] 23) (0, 0)
  have hdd := hidden (dead_any (hD.step s1 (fun h => h)))
  have hsz := hidden (size_any (hD.step s1 (fun h => h)))
  rw [hd] at hdd
  have hnI : ¬ (d.pages.length : Int) < 8 := by omega
  have hwr := hidden (show ((d.pages.length : Int) / 2) = (H : Int) by omega)
  -- what stands ahead of the loop
  have t1 := (Step.refl Nobody w o).alloc (.cells #[.pointer (some ⟨w.heap.size + 1 + 1, 0, none⟩)] 90) (Y, 0)
  have x1 : (w.alloc (.cells #[.pointer (some ⟨w.heap.size + 1 + 1, 0, none⟩)] 90)).heap[w.heap.size]? = _ := heap_alloc_new w _
  have z1 : (w.alloc (.cells #[.pointer (some ⟨w.heap.size + 1 + 1, 0, none⟩)] 90)).heap.size = w.heap.size + 1 := by simp
  have y1 : tagAt o w.heap.size (Y, 0) w.heap.size = (Y, 0) := tagAt_same _ _ _
  obtain ⟨W1, hW1⟩ : ∃ W1, w.alloc (.cells #[.pointer (some ⟨w.heap.size + 1 + 1, 0, none⟩)] 90) = W1 := ⟨_, rfl⟩
  rw [hW1] at t1 x1 z1
  generalize tagAt o w.heap.size (Y, 0) = o1 at *
  have t2 := t1.alloc (.cells #[.int .i64 0] 23) (Y, 0)
  have x2 : (W1.alloc (.cells #[.int .i64 0] 23)).heap[W1.heap.size]? = _ := heap_alloc_new W1 _
  have x12 := (Below.heap_alloc W1 (.cells #[.int .i64 0] 23) w.heap.size (by omega)).trans x1
  have z2 : (W1.alloc (.cells #[.int .i64 0] 23)).heap.size = w.heap.size + 1 + 1 := by simp [z1]
  have y2 : tagAt o1 W1.heap.size (Y, 0) W1.heap.size = (Y, 0) := tagAt_same _ _ _
  have y12 : tagAt o1 W1.heap.size (Y, 0) w.heap.size = (Y, 0) := by rw [tagAt_other _ _ (by omega)]; exact y1
  rw [z1] at x2 y2 y12 t2
  obtain ⟨W2, hW2⟩ : ∃ W2, W1.alloc (.cells #[.int .i64 0] 23) = W2 := ⟨_, rfl⟩
  rw [hW2] at t2 x2 x12 z2
  generalize tagAt o1 (w.heap.size + 1) (Y, 0) = o2 at *
  have t3 := t2.alloc (.cells (storeCells pd (.pointer none) (.pointer none) H 0 0 0 0 (.slice none 0 0) false).toArray 156) (S, 0)
  have x3 : (W2.alloc (.cells (storeCells pd (.pointer none) (.pointer none) H 0 0 0 0 (.slice none 0 0) false).toArray 156)).heap[W2.heap.size]? = _ := heap_alloc_new W2 _
  have x23 := (Below.heap_alloc W2 (.cells (storeCells pd (.pointer none) (.pointer none) H 0 0 0 0 (.slice none 0 0) false).toArray 156) (w.heap.size + 1) (by omega)).trans x2
  have x13 := (Below.heap_alloc W2 (.cells (storeCells pd (.pointer none) (.pointer none) H 0 0 0 0 (.slice none 0 0) false).toArray 156) w.heap.size (by omega)).trans x12
  have y3 : tagAt o2 W2.heap.size (S, 0) W2.heap.size = (S, 0) := tagAt_same _ _ _
  have y23 : tagAt o2 W2.heap.size (S, 0) (w.heap.size + 1) = (Y, 0) := by rw [tagAt_other _ _ (by omega)]; exact y2
  have y13 : tagAt o2 W2.heap.size (S, 0) w.heap.size = (Y, 0) := by rw [tagAt_other _ _ (by omega)]; exact y12
  rw [z2] at x3 y3 y23 y13 t3
  generalize tagAt o2 (w.heap.size + 1 + 1) (S, 0) = o3 at *
  obtain ⟨W3, hW3⟩ : ∃ W3, W2.alloc (.cells (storeCells pd (.pointer none) (.pointer none) H 0 0 0 0 (.slice none 0 0) false).toArray 156) = W3 := ⟨_, rfl⟩
  have hWW : ((w.alloc (.cells #[.pointer (some ⟨w.heap.size + 1 + 1, 0, none⟩)] 90)).alloc (.cells #[.int .i64 0] 23)).alloc (.cells #[.pointer (some ⟨pd, 0, none⟩), .pointer none, .pointer none, .int .i64 (H : Int), .int .i64 0, .int .u64 0, .int .u64 0, .int .u64 0, .slice none 0 0, .bool false] 156) = W3 := by rw [hW1, hW2, ← hW3]; rfl
  rw [hW3] at t3 x3 x23 x13
  have hWWH := hidden hWW
  obtain ⟨a0, ha0⟩ : ∃ a0, LogM.ofPages 0 (LogM.seenPages d 0 H) = a0 := ⟨_, rfl⟩
  obtain ⟨a1, ha1⟩ : ∃ a1, LogM.ofPages H (LogM.seenPages d H H) = a1 := ⟨_, rfl⟩
  rw [ha0] at hr0 ⊢
  rw [ha1] at hr1 ⊢
  have hst0 : OpenSt W3 o3 S A B D Y w.heap.size (w.heap.size + 1 + 1) pd w.heap.size H d a0 a1 g0 g1 k0 k1 0 := ⟨⟨⟨x13, y13⟩, ⟨x23, y23⟩, hD.step t3 (fun h => h)⟩, .inl ⟨rfl, x3, y3⟩⟩
  have hstH := hidden hst0
  have htH := hidden t3
  have hDH := hidden hD
  have hN0H := hidden hN0
  have hN1H := hidden hN1
  have hr0H := hidden hr0
  have hr1H := hidden hr1
  have hrowH := hidden hrow
  have hhH := hidden hh
  have ha0H := hidden ha0
  have ha1H := hidden ha1
  have htgH := hidden htg
  have hddH := hidden hd
  clear s1 t1 t2 t3 x1 x2 x3 x12 x23 x13 y1 y2 y3 y12 y23 y13 z1 z2 hW1 hW2 hW3 hWW hst0 hD hN0 hN1 hr0 hr1 hrow hh ha0 ha1 htg hd
  go_enter_defers Try.func53, Try.ntmps53
  go_wp2_with fail
  refine hdd.out.mono ?_; rintro e w' ⟨rfl, rfl⟩
  go_wp2_with fail
  refine hsz.out.mono ?_; rintro e w' ⟨rfl, rfl⟩
  go_wp2_with fail
  refine hsz.out.mono ?_; rintro e w' ⟨rfl, rfl⟩
  go_wp2_with fail
  rw [hwr.out, hWWH.out]
  clear hsz hdd hwr hWWH
  have hhI : (4 : Int) ≤ (H : Int) ∧ (H : Int) ≤ 200 := by have := hhH.out; omega
  obtain ⟨ps, hps⟩ : ∃ ps, w.heap.size + 1 + 1 = ps := ⟨_, rfl⟩
  have hpsw : w.heap.size ≤ ps := by omega
  rw [hps] at hstH ⊢
  clear hps hnI
  go_loopw [26] (fun i wr => ∃ (k : Nat) (oj : Own), k ≤ 2 ∧ i = .int .i64 k ∧ OpenSt wr oj S A B D Y w.heap.size ps pd w.heap.size H d a0 a1 g0 g1 k0 k1 k ∧ Step (fun t => t = S ∨ t = A ∨ t = B) w o wr oj) (fun i _ => 2 - (intOf i).toNat)
  case atStart => exact ⟨0, o3, by omega, rfl, hstH.out, htH.out.mono (fun _ h => h.elim)⟩
  case round =>
    clear hstH htH
    obtain ⟨k, oj, hk, rfl, ⟨⟨⟨hb2, ho2⟩, ⟨hb3, ho3⟩, hdk⟩, hcs⟩, hst⟩ := hrel
    have c2 : wr.cell? ⟨w.heap.size, 0, none⟩ = some (.pointer (some ⟨ps, 0, none⟩)) := cell_of_block (cs := [_]) hb2 0
    have f2 : wr.frozen? ⟨w.heap.size, 0, none⟩ = false := free_of_block (cs := [_]) hb2 0
    have f3 : wr.frozen? ⟨w.heap.size + 1, 0, none⟩ = false := free_of_block (cs := [_]) hb3 0
    have c3 : wr.cell? ⟨w.heap.size + 1, 0, none⟩ = some (.int .i64 0) := cell_of_block (cs := [_]) hb3 0
    rcases hcs with ⟨rfl, hps, hops⟩ | ⟨rfl, pa, kv, ⟨hps, hops⟩, hkv, hla⟩ | ⟨rfl, hfin⟩
    · have cP3 : wr.cell? ⟨ps, 3, none⟩ = some (.int .i64 (H : Int)) := cell_of_block hps 3
      have hplt := lt_of_block hps
      have hpsb : ¬ ps = w.heap.size := by rintro rfl; rw [hops] at ho2; exact htgH.out.2.1.2.2.2 (Prod.mk.inj ho2).1
      have hG := hidden (And.intro (And.intro hb2 ho2) (And.intro (And.intro hb3 ho3) (And.intro hdk (And.intro hps hops))))
      have hS := And.intro c2 cP3
      have hstK := hidden hst
      skip
      have hop := hidden (fun (x : World) (ox : Own) (hx : Step Nobody wr oj x ox) => open_yes (L := A) (D := D) (fun h => htgH.out.1.2.1 h.symm) (fun h => htgH.out.1.2.2.2.1 h.symm) (fun h => htgH.out.2.2.1.2.1 h) (hdk.step hx (fun h => h)) hrowH.out hddH.out (0 : Nat) H (by have := hhI; omega) (by have := hhI; omega) (by have := hhH.out; omega))
      clear hb2 hb3 hdk hps hst f3 c3 cP3 c2 f2
      go_wp2_with fail
      refine wp_region_need (fun w' => w'.cell? ⟨w.heap.size, 0, none⟩ = some (.pointer (some ⟨ps, 0, none⟩)) ∧ w'.cell? ⟨ps, 3, none⟩ = some (.int .i64 (H : Int))) (fun _ => true) (by kernel_rfl) hS (fun hHeld => ?_)
      refine wpAnyN_tk (i := 0) (v := ?_) rfl (by kernel_rfl) (fun _ _ _ h => panic_put (by decide) h) (Or.inl ⟨by rfl, ?_⟩) (by assumption) ?_
      rotate_left
      · intro w hSw; ((try dsimp only at hSw); go_simp; (try with_reducible rfl))
      simp only [Act.put, List.setIfInBounds_toArray, List.set_cons_zero, List.set_cons_succ]
      refine wpAnyN_tk (i := 1) (v := ?_) rfl (by kernel_rfl) (fun _ _ _ h => panic_put (by decide) h) (Or.inl ⟨by rfl, ?_⟩) (by assumption) ?_
      rotate_left
      · intro w hSw; ((try dsimp only at hSw); go_simp; (try with_reducible rfl))
      simp only [Act.put, List.setIfInBounds_toArray, List.set_cons_zero, List.set_cons_succ]
      refine wpAnyN_tk (i := 2) (v := ?_) rfl (by kernel_rfl) (fun _ _ _ h => panic_put (by decide) h) (Or.inl ⟨by rfl, ?_⟩) (by assumption) ?_
      rotate_left
      · intro w hSw; ((try dsimp only at hSw); go_simp; (try with_reducible rfl))
      simp only [Act.put, List.setIfInBounds_toArray, List.set_cons_zero, List.set_cons_succ]
      refine wpAnyN_tk (i := 3) (v := ?_) rfl (by kernel_rfl) (fun _ _ _ h => panic_put (by decide) h) (Or.inl ⟨by rfl, ?_⟩) (by assumption) ?_
      rotate_left
      · intro w hSw; ((try dsimp only at hSw); go_simp; (try with_reducible rfl))
      simp only [Act.put, List.setIfInBounds_toArray, List.set_cons_zero, List.set_cons_succ]
      refine wpAnyN_tk (i := 4) (v := ?_) rfl (by kernel_rfl) (fun _ _ _ h => panic_put (by decide) h) (Or.inl ⟨by rfl, ?_⟩) (by assumption) ?_
      rotate_left
      · intro w hSw; ((try dsimp only at hSw); go_simp; (try with_reducible rfl))
      simp only [Act.put, List.setIfInBounds_toArray, List.set_cons_zero, List.set_cons_succ]
      refine wpAnyN_tk (i := 5) (v := ?_) rfl (by kernel_rfl) (fun _ _ _ h => panic_put (by decide) h) (Or.inl ⟨by rfl, ?_⟩) (by assumption) ?_
      rotate_left
      · intro w hSw; ((try dsimp only at hSw); go_simp; (try with_reducible rfl))
      simp only [Act.put, List.setIfInBounds_toArray, List.set_cons_zero, List.set_cons_succ]
      refine wpAnyN_tk (i := 6) (v := .int .i64 0) rfl (by kernel_rfl) (fun _ _ _ h => panic_put (by decide) h) (Or.inl ⟨by rfl, fun w hSw => by (try dsimp only at hSw); go_simp; first | done | rfl | exact wrap_i64 (by omega) (by omega)⟩) (by assumption) ?_
      simp only [Act.put, List.setIfInBounds_toArray, List.set_cons_zero, List.set_cons_succ]
      refine wpAnyN_tk (i := 7) (v := ?_) rfl (by kernel_rfl) (fun _ _ _ h => panic_put (by decide) h) (Or.inl ⟨by rfl, ?_⟩) (by assumption) ?_
      rotate_left
      · intro w hSw; ((try dsimp only at hSw); go_simp; (try with_reducible rfl))
      simp only [Act.put, List.setIfInBounds_toArray, List.set_cons_zero, List.set_cons_succ]
      refine wpAnyN_tk (i := 8) (v := ?_) rfl (by kernel_rfl) (fun _ _ _ h => panic_put (by decide) h) (Or.inl ⟨by rfl, ?_⟩) (by assumption) ?_
      rotate_left
      · intro w hSw; ((try dsimp only at hSw); go_simp; (try with_reducible rfl))
      simp only [Act.put, List.setIfInBounds_toArray, List.set_cons_zero, List.set_cons_succ]
      refine wpAnyN_tk (i := 9) (v := ?_) rfl (by kernel_rfl) (fun _ _ _ h => panic_put (by decide) h) (Or.inl ⟨by rfl, ?_⟩) (by assumption) ?_
      rotate_left
      · intro w hSw; ((try dsimp only at hSw); go_simp; (try with_reducible rfl))
      simp only [Act.put, List.setIfInBounds_toArray, List.set_cons_zero, List.set_cons_succ]
      refine wpAnyN_tk (i := 10) (v := ?_) rfl (by kernel_rfl) (fun _ _ _ h => panic_put (by decide) h) (Or.inl ⟨by rfl, ?_⟩) (by assumption) ?_
      rotate_left
      · intro w hSw; ((try dsimp only at hSw); go_simp; (try with_reducible rfl))
      simp only [Act.put, List.setIfInBounds_toArray, List.set_cons_zero, List.set_cons_succ]
      refine wpAnyN_one (i := 11) rfl (by kernel_rfl) ?_
      go_wp2_with fail
      have hdr := (Step.refl Nobody wr oj).drew
      refine (hop.out _ _ hdr).mono ?_; rintro e w1 ⟨v1, o1, rfl, hs1, hopn⟩
      obtain ⟨pn, -, rfl, hlog⟩ := hopn.2 hN0H.out
      rw [ha0H.out] at hlog
      have hs1 : Step (Only A) wr oj w1 o1 := (hdr.only A).trans hs1
      clear hopn hHeld
      have tg := htgH.out
      have u2 := (hs1.block _ (lt_of_block hG.out.1.1) (by rw [hG.out.1.2]; exact fun h => tg.2.2.1.2.2 h.symm)).trans hG.out.1.1
      have u3 := (hs1.block _ (lt_of_block hG.out.2.1.1) (by rw [hG.out.2.1.2]; exact fun h => tg.2.2.1.2.2 h.symm)).trans hG.out.2.1.1
      have up := (hs1.block _ hplt (by rw [hG.out.2.2.2.2]; exact fun h => tg.2.1.1 h)).trans hG.out.2.2.2.1
      have hS1 := And.intro (cell_of_block (cs := [_]) u2 0) (cell_of_block up 3)
      go_wp2_with fail
      refine ⟨fun _ => hS1, ?_⟩
      refine wpAnyN_tk (i := 12) (v := ?_) rfl (by kernel_rfl) (fun _ _ _ h => panic_put (by decide) h) (Or.inl ⟨by rfl, ?_⟩) (by assumption) ?_
      rotate_left
      · intro w hSw; ((try dsimp only at hSw); go_simp; (try with_reducible rfl))
      simp only [Act.put, List.setIfInBounds_toArray, List.set_cons_zero, List.set_cons_succ]
      refine wpAnyN_tk (i := 13) (v := ?_) rfl (by kernel_rfl) (fun _ _ _ h => panic_put (by decide) h) (Or.inl ⟨by rfl, ?_⟩) (by assumption) ?_
      rotate_left
      · intro w hSw; ((try dsimp only at hSw); go_simp; (try with_reducible rfl))
      simp only [Act.put, List.setIfInBounds_toArray, List.set_cons_zero, List.set_cons_succ]
      refine wpAnyN_tk (i := 14) (v := ?_) rfl (by kernel_rfl) (fun _ _ _ h => panic_put (by decide) h) (Or.inl ⟨by rfl, ?_⟩) (by assumption) ?_
      rotate_left
      · intro w hSw; ((try dsimp only at hSw); go_simp; (try with_reducible rfl))
      simp only [Act.put, List.setIfInBounds_toArray, List.set_cons_zero, List.set_cons_succ]
      refine wpAnyN_tk (i := 15) (v := ?_) rfl (by kernel_rfl) (fun _ _ _ h => panic_put (by decide) h) (Or.inl ⟨by rfl, ?_⟩) (by assumption) ?_
      rotate_left
      · intro w hSw; ((try dsimp only at hSw); go_simp; (try with_reducible rfl))
      simp only [Act.put, List.setIfInBounds_toArray, List.set_cons_zero, List.set_cons_succ]
      refine wpAnyN_tk (i := 16) (v := ?_) rfl (by kernel_rfl) (fun _ _ _ h => panic_put (by decide) h) (Or.inl ⟨by rfl, ?_⟩) (by assumption) ?_
      rotate_left
      · intro w hSw; ((try dsimp only at hSw); go_simp; (try with_reducible rfl))
      simp only [Act.put, List.setIfInBounds_toArray, List.set_cons_zero, List.set_cons_succ]
      refine wpAnyN_done (by kernel_rfl) ?_ _
      have z2 := (hs1.own _ (lt_of_block hG.out.1.1)).trans hG.out.1.2
      have z3 := (hs1.own _ (lt_of_block hG.out.2.1.1)).trans hG.out.2.1.2
      have zp := (hs1.own _ hplt).trans hG.out.2.2.2.2
      have hd1 := hG.out.2.2.1.step hs1 (fun h => tg.2.2.1.2.1 h.symm)
      have hst1 := hstK.out.trans (hs1.mono (T' := fun t => t = S ∨ t = A ∨ t = B) (fun _ h => .inr (.inl h)))
      clear hop hs1
      go_wp2_with fail
      refine (must_any w1).mono ?_; rintro e w' ⟨rfl, rfl⟩
      have hset := (Step.refl (Only S) w1 o1).setCell (a := ⟨ps, 1, none⟩) (.pointer (some ⟨pn, 0, none⟩)) (.inl (by show (o1 ps).1 = S; rw [zp]))
      have up2 : (w1.setCell ⟨ps, 1, none⟩ (.pointer (some ⟨pn, 0, none⟩))).heap[ps]? = some (.cells (storeCells pd (.pointer (some ⟨pn, 0, none⟩)) (.pointer none) H 0 0 0 0 (.slice none 0 0) false).toArray 156 (0, 0)) := heap_setCell_at (i := 1) _ up
      have hpsb2 : w.heap.size ≠ ps := by rintro rfl; rw [zp] at z2; exact tg.2.1.2.2.2 (Prod.mk.inj z2).1
      have hpsb3 : w.heap.size + 1 ≠ ps := by intro h; rw [h, zp] at z3; exact tg.2.1.2.2.2 (Prod.mk.inj z3).1
      have u22 := (Below.heap_setCell w1 ⟨ps, 1, none⟩ (.pointer (some ⟨pn, 0, none⟩)) w.heap.size hpsb2).trans u2
      have u32 := (Below.heap_setCell w1 ⟨ps, 1, none⟩ (.pointer (some ⟨pn, 0, none⟩)) (w.heap.size + 1) hpsb3).trans u3
      have hlog2 := hlog.step hset (fun h => tg.2.1.1 h.symm) (fun h => tg.1.1 h)
      have hd2 := hd1.step hset (fun h => tg.2.1.2.2.1 h.symm)
      have hst2 := hst1.setCell (a := ⟨ps, 1, none⟩) (.pointer (some ⟨pn, 0, none⟩)) (.inl (by show (o1 ps).1 = S ∨ _; rw [zp]; exact .inl rfl))
      have q1 := hS1.1
      have q2 : w1.frozen? ⟨ps, 1, none⟩ = false := free_of_block up 1
      have q3 := cell_of_block up 1
      obtain ⟨W2, hw2⟩ : ∃ W2, w1.setCell ⟨ps, 1, none⟩ (.pointer (some ⟨pn, 0, none⟩)) = W2 := ⟨_, rfl⟩
      rw [hw2] at up2 u22 u32 hlog2 hd2 hst2 
      have hw2H := hidden hw2
      have hbat := hidden (batches_is hlog2 _ rfl)
      have hwf := hlog2
      obtain ⟨-, -, -, -, -, -, -, hwf⟩ := hwf
      clear hset hw2 hS1 up u2 u3 hlog hd1 hst1 
      go_wp2_with fail
      rw [hw2H.out]
      refine hbat.out.mono ?_; rintro e w3 ⟨v3, o3', rfl, hs3, vs, hown, -, hrb, hz⟩
      have hslc : Slc w3 o3' v3 a0.records.length vs := own_slc hown (fun k hk => by rw [hz k (hown.lt k hk).1])
      have hrl : a0.records.length ≤ 300 := by
        have h1 := hwf.2.2.2.2.1
        have h2 := hwf.2.2.2.2.2.1
        have h3 : a0.n = H := by rw [← ha0H.out]; exact LogM.length_seenPages _ _ _
        have := hhI; omega
      have hrep := sreplay_any hslc hrb (fun b hb => Nat.le_trans (hwf.2.2.2.2.2.2 b hb) (by omega)) hrl hr0H.out
      simp only [keptV] at hrep
      have hrepH := hidden hrep
      clear hrep hslc hown hrb hz hbat
      go_wp2_with fail
      refine hrepH.out.mono ?_; rintro e w4 ⟨v4, o4, rfl, hs4, lv, rfl, hl4, -⟩
      clear hrepH
      have s34 := hs3.trans hs4
      have hal := hidden (run_alloc_zero (P := Try.prog) w4 108 _ zc108)
      have s5a := (Step.refl Nobody w4 o4).alloc (.cells #[.int .u64 0, .int .u64 0, .slice none 0 0] 108) (Y, 0)
      have b5a : (w4.alloc (.cells #[.int .u64 0, .int .u64 0, .slice none 0 0] 108)).heap[w4.heap.size]? = some (.cells [.int .u64 0, .int .u64 0, .slice none 0 0].toArray 108 (0, 0)) := heap_alloc_new w4 _
      have y5a : tagAt o4 w4.heap.size (Y, 0) w4.heap.size = (Y, 0) := tagAt_same _ _ _
      obtain ⟨lla, llc, hlv⟩ := hl4.form
      obtain ⟨hso, hsb⟩ := run_store_agg (P := Try.prog) (ty := 108) (vs := [.int .u64 (k0.promised.toNat : Int), .int .u64 (k0.current.toNat : Int), lv]) b5a rfl (by kernel_rfl) (by rw [hlv]; rfl)
      have hsoH := hidden hso
      have s5 := (s5a.mono (T' := Only Y) (fun _ h => h.elim)).setCells w4.heap.size 0 [.int .u64 (k0.promised.toNat : Int), .int .u64 (k0.current.toNat : Int), lv] (.inl (by show (tagAt o4 w4.heap.size (Y, 0) w4.heap.size).1 = Y; rw [y5a]))
      have hst5 := (hst2.trans (s34.mono (T' := fun t => t = S ∨ t = A ∨ t = B) (fun _ h => h.elim))).trans ((s5a.mono (T' := fun t => t = S ∨ t = A ∨ t = B) (fun _ h => h.elim)).setCells w4.heap.size 0 [.int .u64 (k0.promised.toNat : Int), .int .u64 (k0.current.toNat : Int), lv] (.inr (Nat.le_refl _)))
      generalize tagAt o4 w4.heap.size (Y, 0) = o5 at *
      obtain ⟨W5, hW5⟩ : ∃ W5, (w4.alloc (.cells #[.int .u64 0, .int .u64 0, .slice none 0 0] 108)).setCells w4.heap.size 0 [.int .u64 (k0.promised.toNat : Int), .int .u64 (k0.current.toNat : Int), lv] = W5 := ⟨_, rfl⟩
      rw [hW5] at hsoH hsb s5 hst5
      have e5 := (hs4.block w.heap.size (lt_of_block ((hs3.block _ (lt_of_block u22) (fun h => h)).trans u22)) (fun h => h)).trans ((hs3.block _ (lt_of_block u22) (fun h => h)).trans u22)
      have e53 := (hs4.block (w.heap.size + 1) (lt_of_block ((hs3.block _ (lt_of_block u32) (fun h => h)).trans u32)) (fun h => h)).trans ((hs3.block _ (lt_of_block u32) (fun h => h)).trans u32)
      have e5p := (hs4.block ps (lt_of_block ((hs3.block _ (lt_of_block up2) (fun h => h)).trans up2)) (fun h => h)).trans ((hs3.block _ (lt_of_block up2) (fun h => h)).trans up2)
      have hW5b : ∀ k, k < w4.heap.size → W5.heap[k]? = w4.heap[k]? := fun k hk => by
        rw [← hW5, heap_setCells_other _ _ _ _ _ (by omega)]; exact Below.heap_alloc _ _ _ hk
      have e5 := (hW5b _ (lt_of_block e5)).trans e5
      have e53 := (hW5b _ (lt_of_block e53)).trans e53
      have hps8 : w4.heap.size ≠ ps := by have := lt_of_block e5p; omega
      have h28 : w.heap.size ≠ w4.heap.size := by have := hst2.size; have := s34.size; have := lt_of_block u22; omega
      have e5p := (hW5b _ (lt_of_block e5p)).trans e5p
      have sAll := (s34.only Y).trans s5
      have z25 := (sAll.own _ (lt_of_block u22)).trans z2
      have z35 := (sAll.own _ (lt_of_block u32)).trans z3
      have zp5 := (sAll.own _ (lt_of_block up2)).trans zp
      have hlog5 := hlog2.step sAll (fun h => tg.2.2.1.2.2 h) (fun h => tg.1.2.2.2.2 h)
      have hd5 := hd2.step sAll (fun h => tg.2.2.2.2 h)
      have hl5 := (hl4.step s5 (fun h => tg.1.2.2.2.2 h)).low (Nat.le_trans hst2.size hs3.size)
      have hG5 := hidden (And.intro (And.intro e5 z25) (And.intro e53 z35))
      have hA5 := hidden (And.intro zp5 (And.intro hlog5 (And.intro hd5 (And.intro hl5 hst5))))
      have hbK := hidden hsb
      have pH := hidden e5p
      have c5 := cell_of_block (cs := [_]) e5 0
      have p55 : W5.cell? ⟨ps, 5, none⟩ = some (.int .u64 0) := by simpa [storeCells] using cell_of_block e5p 5
      obtain ⟨b8, hb8⟩ : ∃ b8, w4.heap.size = b8 := ⟨_, rfl⟩
      rw [hb8] at hal hsoH hbK hps8 h28
      have hlvH := hidden hlv
      clear hlv hso s5a s5 b5a y5a hsb hst5 hW5 hW5b e5 e53 e5p sAll z25 z35 zp5 hlog5 hd5 hl5 hl4 s34 hs3 hs4 hlog2 hd2 hst2 u22 u32 up2 z2 z3 zp q1 q2 q3 hw2H W2 hb8 
      by_cases hc : 0 < g0.toNat
      · have hcb : decide (0 < g0.toNat) = true := decide_eq_true hc
        go_wp2_with (first
          | ((with_reducible apply lit_alloc); exact hal.out; simp only [Act.put, List.setIfInBounds_toArray, List.set_cons_zero, List.set_cons_succ])
          | ((with_reducible apply lit_store); exact hsoH.out; simp only [Act.put]))
        have p0 : (W5.drew).heap[ps]? = some (.cells (storeCells pd (.pointer (some ⟨pn, 0, none⟩)) (.pointer none) H 0 0 0 0 (.slice none 0 0) false).toArray 156 (0, 0)) := pH.out
        have p1 := heap_setCell_at (i := 4) (.int .i64 0) p0
        have p2 := heap_setCell_at (i := 5) (.int .u64 (g0.toNat : Int)) p1
        have p3 : ((((W5.drew).setCell ⟨ps, 4, none⟩ (.int .i64 0)).setCell ⟨ps, 5, none⟩ (.int .u64 (g0.toNat : Int))).setCells ps 6 [.int .u64 (k0.promised.toNat : Int), .int .u64 (k0.current.toNat : Int), lv]).heap[ps]? = some (.cells (storeCells pd (.pointer (some ⟨pn, 0, none⟩)) (.pointer none) H 0 g0 k0.promised k0.current lv false).toArray 156 (0, 0)) := heap_setCells_same ps 156 _ 6 _ _ p2 (by simp [storeCells])
        have hso2 := hidden (run_storeAt_mid (P := Try.prog) (((W5.drew).setCell ⟨ps, 4, none⟩ (.int .i64 0)).setCell ⟨ps, 5, none⟩ (.int .u64 (g0.toNat : Int))) ps 6 108 #[.int .u64 (k0.promised.toNat : Int), .int .u64 (k0.current.toNat : Int), lv] (there_of_block p2 6 3 (by simp [storeCells])) size108 (by rw [hlvH.out]; simp [Value.oneCell']))
        have zp5 := hA5.out.1
        have hset6 := (((Step.refl (Only S) W5 o5).drew.setCell (a := ⟨ps, 4, none⟩) (.int .i64 0) (.inl (by show (o5 ps).1 = S; rw [zp5]))).setCell (a := ⟨ps, 5, none⟩) (.int .u64 (g0.toNat : Int)) (.inl (by show (o5 ps).1 = S; rw [zp5]))).setCells ps 6 [.int .u64 (k0.promised.toNat : Int), .int .u64 (k0.current.toNat : Int), lv] (.inl (by show (o5 ps).1 = S; rw [zp5]))
        have v2 := (hset6.block _ (lt_of_block hG5.out.1.1) (by rw [hG5.out.1.2]; exact fun h => tg.2.1.2.2.2 h.symm)).trans hG5.out.1.1
        have v3' := (hset6.block _ (lt_of_block hG5.out.2.1) (by rw [hG5.out.2.2]; exact fun h => tg.2.1.2.2.2 h.symm)).trans hG5.out.2.1
        have hFIN := hidden (show OpenSt ((((W5.drew).setCell ⟨ps, 4, none⟩ (.int .i64 0)).setCell ⟨ps, 5, none⟩ (.int .u64 (g0.toNat : Int))).setCells ps 6 [.int .u64 (k0.promised.toNat : Int), .int .u64 (k0.current.toNat : Int), lv]) o5 S A B D Y w.heap.size ps pd w.heap.size H d a0 a1 g0 g1 k0 k1 1 from
          ⟨⟨⟨v2, hG5.out.1.2⟩, ⟨v3', hG5.out.2.2⟩, hA5.out.2.2.1.step hset6 (fun h => tg.2.1.2.2.1 h.symm)⟩, .inr (.inl ⟨rfl, pn, lv, ⟨p3, zp5⟩, hA5.out.2.2.2.1.step hset6 (fun h => tg.1.1 h), hA5.out.2.1.step hset6 (fun h => tg.2.1.1 h.symm) (fun h => tg.1.1 h)⟩)⟩)
        have hst6 := hidden (hA5.out.2.2.2.2.trans (hset6.mono (T' := fun t => t = S ∨ t = A ∨ t = B) (fun _ h => .inl h)))
        have f54 : (W5.drew).frozen? ⟨ps, 4, none⟩ = false := free_of_block p0 4
        have f55 : (W5.drew).frozen? ⟨ps, 5, none⟩ = false := free_of_block p0 5
        have c54 := cell_of_block p0 4
        have c55 := cell_of_block p0 5
        simp only [storeCells, List.getElem?_cons_succ, List.getElem?_cons_zero] at c54 c55
        have d2 : (W5.drew).heap[w.heap.size]? = _ := hG5.out.1.1
        have d8 : (W5.drew).heap[b8]? = _ := hbK.out
        have d21 := (Below.heap_setCell (W5.drew) ⟨ps, 4, none⟩ (.int .i64 0) w.heap.size hpsb2).trans d2
        have d81 := (Below.heap_setCell (W5.drew) ⟨ps, 4, none⟩ (.int .i64 0) b8 hps8).trans d8
        have d22 := (Below.heap_setCell ((W5.drew).setCell ⟨ps, 4, none⟩ (.int .i64 0)) ⟨ps, 5, none⟩ (.int .u64 (g0.toNat : Int)) w.heap.size hpsb2).trans d21
        have d82 := (Below.heap_setCell ((W5.drew).setCell ⟨ps, 4, none⟩ (.int .i64 0)) ⟨ps, 5, none⟩ (.int .u64 (g0.toNat : Int)) b8 hps8).trans d81
        have d23 := (heap_setCells_other ps [.int .u64 (k0.promised.toNat : Int), .int .u64 (k0.current.toNat : Int), lv] 6 (((W5.drew).setCell ⟨ps, 4, none⟩ (.int .i64 0)).setCell ⟨ps, 5, none⟩ (.int .u64 (g0.toNat : Int))) w.heap.size hpsb2).trans d22
        have d83 := (heap_setCells_other ps [.int .u64 (k0.promised.toNat : Int), .int .u64 (k0.current.toNat : Int), lv] 6 (((W5.drew).setCell ⟨ps, 4, none⟩ (.int .i64 0)).setCell ⟨ps, 5, none⟩ (.int .u64 (g0.toNat : Int))) b8 hps8).trans d82
        have hS17 : W5.drew.cell? ⟨w.heap.size, 0, none⟩ = some (.pointer (some ⟨ps, 0, none⟩)) ∧ W5.drew.heap[b8]? = some (.cells [.int .u64 (k0.promised.toNat : Int), .int .u64 (k0.current.toNat : Int), lv].toArray 108 (0, 0)) := And.intro c5 hbK.out
        have hS8 : ((W5.drew).setCell ⟨ps, 4, none⟩ (.int .i64 0)).cell? ⟨w.heap.size, 0, none⟩ = some (.pointer (some ⟨ps, 0, none⟩)) ∧ ((W5.drew).setCell ⟨ps, 4, none⟩ (.int .i64 0)).heap[b8]? = some (.cells [.int .u64 (k0.promised.toNat : Int), .int .u64 (k0.current.toNat : Int), lv].toArray 108 (0, 0)) := And.intro (cell_of_block (cs := [_]) d21 0) d81
        have hS11 : (((W5.drew).setCell ⟨ps, 4, none⟩ (.int .i64 0)).setCell ⟨ps, 5, none⟩ (.int .u64 (g0.toNat : Int))).cell? ⟨w.heap.size, 0, none⟩ = some (.pointer (some ⟨ps, 0, none⟩)) ∧ (((W5.drew).setCell ⟨ps, 4, none⟩ (.int .i64 0)).setCell ⟨ps, 5, none⟩ (.int .u64 (g0.toNat : Int))).heap[b8]? = some (.cells [.int .u64 (k0.promised.toNat : Int), .int .u64 (k0.current.toNat : Int), lv].toArray 108 (0, 0)) := And.intro (cell_of_block (cs := [_]) d22 0) d82
        have hS14 : ((((W5.drew).setCell ⟨ps, 4, none⟩ (.int .i64 0)).setCell ⟨ps, 5, none⟩ (.int .u64 (g0.toNat : Int))).setCells ps 6 [.int .u64 (k0.promised.toNat : Int), .int .u64 (k0.current.toNat : Int), lv]).cell? ⟨w.heap.size, 0, none⟩ = some (.pointer (some ⟨ps, 0, none⟩)) ∧ ((((W5.drew).setCell ⟨ps, 4, none⟩ (.int .i64 0)).setCell ⟨ps, 5, none⟩ (.int .u64 (g0.toNat : Int))).setCells ps 6 [.int .u64 (k0.promised.toNat : Int), .int .u64 (k0.current.toNat : Int), lv]).heap[b8]? = some (.cells [.int .u64 (k0.promised.toNat : Int), .int .u64 (k0.current.toNat : Int), lv].toArray 108 (0, 0)) := And.intro (cell_of_block (cs := [_]) d23 0) d83
        clear p0 p1 p2 p3 hset6 v2 v3' zp5 d2 d8 d21 d81 d22 d82 d23 d83 hcb p55 hsoH hal pH c5 hpsb hpsb2 hpsb3 hps8 h28
        obtain ⟨V, hV⟩ : ∃ V, W5.drew = V := ⟨_, rfl⟩
        rw [hV] at hFIN hst6 f54 f55 c54 c55 hS17 hS8 hS11 hS14 hso2
        have hS8H := hidden hS8
        have hS11H := hidden hS11
        have hS14H := hidden hS14
        clear hS8 hS11 hS14
        refine wp_region_need (fun w' => w'.cell? ⟨w.heap.size, 0, none⟩ = some (.pointer (some ⟨ps, 0, none⟩)) ∧ w'.heap[b8]? = some (.cells [.int .u64 (k0.promised.toNat : Int), .int .u64 (k0.current.toNat : Int), lv].toArray 108 (0, 0))) (fun _ => true) (by kernel_rfl) (by rw [hV]; exact hS17) (fun hHeld => ?_)
        clear hHeld
        rw [hV]
        clear hV
        have hHeldV := hS17
        refine wpAnyN_tk (i := 0) (v := ?_) rfl (by kernel_rfl) (fun _ _ _ h => panic_put (by decide) h) (Or.inl ⟨by rfl, ?_⟩) (by assumption) ?_
        rotate_left
        · intro w hSw; ((try dsimp only at hSw); go_simp; (try with_reducible rfl))
        simp only [Act.put, List.setIfInBounds_toArray, List.set_cons_zero, List.set_cons_succ]
        refine wpAnyN_tk (i := 1) (v := ?_) rfl (by kernel_rfl) (fun _ _ _ h => panic_put (by decide) h) (Or.inl ⟨by rfl, ?_⟩) (by assumption) ?_
        rotate_left
        · intro w hSw; ((try dsimp only at hSw); go_simp; (try with_reducible rfl))
        simp only [Act.put, List.setIfInBounds_toArray, List.set_cons_zero, List.set_cons_succ]
        refine wpAnyN_tk (i := 2) (v := ?_) rfl (by kernel_rfl) (fun _ _ _ h => panic_put (by decide) h) (Or.inl ⟨by rfl, ?_⟩) (by assumption) ?_
        rotate_left
        · intro w hSw; ((try dsimp only at hSw); go_simp; (try with_reducible rfl))
        simp only [Act.put, List.setIfInBounds_toArray, List.set_cons_zero, List.set_cons_succ]
        refine wpAnyN_tk (i := 3) (v := ?_) rfl (by kernel_rfl) (fun _ _ _ h => panic_put (by decide) h) (Or.inl ⟨by rfl, ?_⟩) (by assumption) ?_
        rotate_left
        · intro w hSw; ((try dsimp only at hSw); go_simp; (try with_reducible rfl))
        simp only [Act.put, List.setIfInBounds_toArray, List.set_cons_zero, List.set_cons_succ]
        refine wpAnyN_tk (i := 4) (v := ?_) rfl (by kernel_rfl) (fun _ _ _ h => panic_put (by decide) h) (Or.inl ⟨by rfl, ?_⟩) (by assumption) ?_
        rotate_left
        · intro w hSw; ((try dsimp only at hSw); go_simp; (try with_reducible rfl))
        simp only [Act.put, List.setIfInBounds_toArray, List.set_cons_zero, List.set_cons_succ]
        refine wpAnyN_tk (i := 5) (v := .agg [.int .u64 (k0.promised.toNat : Int), .int .u64 (k0.current.toNat : Int), lv].toArray) rfl (by kernel_rfl) (fun _ _ _ h => panic_put (by decide) h) (yieldsIf_load_mid rfl 108 (.tmp 8) rfl b8 0 rfl [.int .u64 (k0.promised.toNat : Int), .int .u64 (k0.current.toNat : Int), lv] _ (fun w h => range_whole h.2) Try.underlying108 rfl (by kernel_rfl)) (by assumption) ?_
        simp only [Act.put, List.setIfInBounds_toArray, List.set_cons_zero, List.set_cons_succ]
        refine wpAnyN_tk (i := 6) (v := ?_) rfl (by kernel_rfl) (fun _ _ _ h => panic_put (by decide) h) (Or.inl ⟨by rfl, ?_⟩) (by assumption) ?_
        rotate_left
        · intro w hSw; ((try dsimp only at hSw); go_simp; (try with_reducible rfl))
        simp only [Act.put, List.setIfInBounds_toArray, List.set_cons_zero, List.set_cons_succ]
        refine wpAnyN_tk (i := 7) (v := ?_) rfl (by kernel_rfl) (fun _ _ _ h => panic_put (by decide) h) (Or.inl ⟨by rfl, ?_⟩) (by assumption) ?_
        rotate_left
        · intro w hSw; ((try dsimp only at hSw); go_simp; (try with_reducible rfl))
        simp only [Act.put, List.setIfInBounds_toArray, List.set_cons_zero, List.set_cons_succ]
        refine wpAnyN_one (i := 8) rfl (by kernel_rfl) ?_
        go_wp2_with fail
        have hS8 := hS8H.out
        first | refine ⟨fun _ => hS8, ?_⟩ | refine ⟨hS8.2, ?_⟩
        refine wpAnyN_tk (i := 9) (v := ?_) rfl (by kernel_rfl) (fun _ _ _ h => panic_put (by decide) h) (Or.inl ⟨by rfl, ?_⟩) (by assumption) ?_
        rotate_left
        · intro w hSw; ((try dsimp only at hSw); go_simp; (try with_reducible rfl))
        simp only [Act.put, List.setIfInBounds_toArray, List.set_cons_zero, List.set_cons_succ]
        refine wpAnyN_tk (i := 10) (v := ?_) rfl (by kernel_rfl) (fun _ _ _ h => panic_put (by decide) h) (Or.inl ⟨by rfl, ?_⟩) (by assumption) ?_
        rotate_left
        · intro w hSw; ((try dsimp only at hSw); go_simp; (try with_reducible rfl))
        simp only [Act.put, List.setIfInBounds_toArray, List.set_cons_zero, List.set_cons_succ]
        refine wpAnyN_one (i := 11) rfl (by kernel_rfl) ?_
        go_wp2_with fail
        have hS11 := hS11H.out
        first | refine ⟨fun _ => hS11, ?_⟩ | refine ⟨hS11.2, ?_⟩
        refine wpAnyN_tk (i := 12) (v := ?_) rfl (by kernel_rfl) (fun _ _ _ h => panic_put (by decide) h) (Or.inl ⟨by rfl, ?_⟩) (by assumption) ?_
        rotate_left
        · intro w hSw; ((try dsimp only at hSw); go_simp; (try with_reducible rfl))
        simp only [Act.put, List.setIfInBounds_toArray, List.set_cons_zero, List.set_cons_succ]
        refine wpAnyN_tk (i := 13) (v := ?_) rfl (by kernel_rfl) (fun _ _ _ h => panic_put (by decide) h) (Or.inl ⟨by rfl, ?_⟩) (by assumption) ?_
        rotate_left
        · intro w hSw; ((try dsimp only at hSw); go_simp; (try with_reducible rfl))
        simp only [Act.put, List.setIfInBounds_toArray, List.set_cons_zero, List.set_cons_succ]
        refine wpAnyN_one (i := 14) rfl (by kernel_rfl) ?_
        apply lit_store
        · exact hso2.out
        simp only [Act.put]
        go_wp2_with fail
        have hS14 := hS14H.out
        first | refine ⟨fun _ => hS14, ?_⟩ | refine ⟨hS14.2, ?_⟩
        refine wpAnyN_done (by kernel_rfl) ?_ _
        go_wp2_with fail
        go_roundw
        case rel => exact ⟨1, o5, by omega, by first | rfl | go_num, hFIN.out, hst6.out⟩
        case measure => simp [intOf]
      · have hcb : decide (0 < g0.toNat) = false := decide_eq_false hc
        go_wp2_with (first
          | ((with_reducible apply lit_alloc); exact hal.out; simp only [Act.put, List.setIfInBounds_toArray, List.set_cons_zero, List.set_cons_succ])
          | ((with_reducible apply lit_store); exact hsoH.out; simp only [Act.put]))
        have hg0 : g0 = 0 := BitVec.eq_of_toNat_eq (by have : (0 : BitVec 64).toNat = 0 := rfl; omega)
        have hk0 : k0 = ⟨0, 0, []⟩ := replay_zero (by rw [← hg0]; exact hr0H.out)
        refine ⟨⟨1, o5, by omega, rfl, ⟨⟨⟨hG5.out.1.1, hG5.out.1.2⟩, ⟨hG5.out.2.1, hG5.out.2.2⟩, hA5.out.2.2.1⟩, .inr (.inl ⟨rfl, pn, .slice none 0 0, ⟨by rw [hg0, hk0]; exact pH.out, hA5.out.1⟩, by rw [hk0]; exact Lines.nil _ _ _, hA5.out.2.1⟩)⟩, hA5.out.2.2.2.2⟩, by simp [intOf]⟩
    · have cP3 : wr.cell? ⟨ps, 3, none⟩ = some (.int .i64 (H : Int)) := cell_of_block hps 3
      have hplt := lt_of_block hps
      have hpsb : ¬ ps = w.heap.size := by rintro rfl; rw [hops] at ho2; exact htgH.out.2.1.2.2.2 (Prod.mk.inj ho2).1
      have hG := hidden (And.intro (And.intro hb2 ho2) (And.intro (And.intro hb3 ho3) (And.intro hdk (And.intro hps hops))))
      have hS := And.intro c2 cP3
      have hstK := hidden hst
      have hlaH := hidden hla
      have hkvH := hidden hkv
      clear hla hkv
      have hop := hidden (fun (x : World) (ox : Own) (hx : Step Nobody wr oj x ox) => open_yes (L := B) (D := D) (fun h => htgH.out.1.2.2.1 h.symm) (fun h => htgH.out.1.2.2.2.1 h.symm) (fun h => htgH.out.2.2.2.1.1 h) (hdk.step hx (fun h => h)) hrowH.out hddH.out (H) H (by have := hhI; omega) (by have := hhI; omega) (by have := hhH.out; omega))
      clear hb2 hb3 hdk hps hst f3 c3 cP3 c2 f2
      go_wp2_with fail
      refine wp_region_need (fun w' => w'.cell? ⟨w.heap.size, 0, none⟩ = some (.pointer (some ⟨ps, 0, none⟩)) ∧ w'.cell? ⟨ps, 3, none⟩ = some (.int .i64 (H : Int))) (fun _ => true) (by kernel_rfl) hS (fun hHeld => ?_)
      refine wpAnyN_tk (i := 0) (v := ?_) rfl (by kernel_rfl) (fun _ _ _ h => panic_put (by decide) h) (Or.inl ⟨by rfl, ?_⟩) (by assumption) ?_
      rotate_left
      · intro w hSw; ((try dsimp only at hSw); go_simp; (try with_reducible rfl))
      simp only [Act.put, List.setIfInBounds_toArray, List.set_cons_zero, List.set_cons_succ]
      refine wpAnyN_tk (i := 1) (v := ?_) rfl (by kernel_rfl) (fun _ _ _ h => panic_put (by decide) h) (Or.inl ⟨by rfl, ?_⟩) (by assumption) ?_
      rotate_left
      · intro w hSw; ((try dsimp only at hSw); go_simp; (try with_reducible rfl))
      simp only [Act.put, List.setIfInBounds_toArray, List.set_cons_zero, List.set_cons_succ]
      refine wpAnyN_tk (i := 2) (v := ?_) rfl (by kernel_rfl) (fun _ _ _ h => panic_put (by decide) h) (Or.inl ⟨by rfl, ?_⟩) (by assumption) ?_
      rotate_left
      · intro w hSw; ((try dsimp only at hSw); go_simp; (try with_reducible rfl))
      simp only [Act.put, List.setIfInBounds_toArray, List.set_cons_zero, List.set_cons_succ]
      refine wpAnyN_tk (i := 3) (v := ?_) rfl (by kernel_rfl) (fun _ _ _ h => panic_put (by decide) h) (Or.inl ⟨by rfl, ?_⟩) (by assumption) ?_
      rotate_left
      · intro w hSw; ((try dsimp only at hSw); go_simp; (try with_reducible rfl))
      simp only [Act.put, List.setIfInBounds_toArray, List.set_cons_zero, List.set_cons_succ]
      refine wpAnyN_tk (i := 4) (v := ?_) rfl (by kernel_rfl) (fun _ _ _ h => panic_put (by decide) h) (Or.inl ⟨by rfl, ?_⟩) (by assumption) ?_
      rotate_left
      · intro w hSw; ((try dsimp only at hSw); go_simp; (try with_reducible rfl))
      simp only [Act.put, List.setIfInBounds_toArray, List.set_cons_zero, List.set_cons_succ]
      refine wpAnyN_tk (i := 5) (v := ?_) rfl (by kernel_rfl) (fun _ _ _ h => panic_put (by decide) h) (Or.inl ⟨by rfl, ?_⟩) (by assumption) ?_
      rotate_left
      · intro w hSw; ((try dsimp only at hSw); go_simp; (try with_reducible rfl))
      simp only [Act.put, List.setIfInBounds_toArray, List.set_cons_zero, List.set_cons_succ]
      refine wpAnyN_tk (i := 6) (v := .int .i64 (H : Int)) rfl (by kernel_rfl) (fun _ _ _ h => panic_put (by decide) h) (Or.inl ⟨by rfl, fun w hSw => by (try dsimp only at hSw); go_simp; first | done | rfl | exact wrap_i64 (by omega) (by omega)⟩) (by assumption) ?_
      simp only [Act.put, List.setIfInBounds_toArray, List.set_cons_zero, List.set_cons_succ]
      refine wpAnyN_tk (i := 7) (v := ?_) rfl (by kernel_rfl) (fun _ _ _ h => panic_put (by decide) h) (Or.inl ⟨by rfl, ?_⟩) (by assumption) ?_
      rotate_left
      · intro w hSw; ((try dsimp only at hSw); go_simp; (try with_reducible rfl))
      simp only [Act.put, List.setIfInBounds_toArray, List.set_cons_zero, List.set_cons_succ]
      refine wpAnyN_tk (i := 8) (v := ?_) rfl (by kernel_rfl) (fun _ _ _ h => panic_put (by decide) h) (Or.inl ⟨by rfl, ?_⟩) (by assumption) ?_
      rotate_left
      · intro w hSw; ((try dsimp only at hSw); go_simp; (try with_reducible rfl))
      simp only [Act.put, List.setIfInBounds_toArray, List.set_cons_zero, List.set_cons_succ]
      refine wpAnyN_tk (i := 9) (v := ?_) rfl (by kernel_rfl) (fun _ _ _ h => panic_put (by decide) h) (Or.inl ⟨by rfl, ?_⟩) (by assumption) ?_
      rotate_left
      · intro w hSw; ((try dsimp only at hSw); go_simp; (try with_reducible rfl))
      simp only [Act.put, List.setIfInBounds_toArray, List.set_cons_zero, List.set_cons_succ]
      refine wpAnyN_tk (i := 10) (v := ?_) rfl (by kernel_rfl) (fun _ _ _ h => panic_put (by decide) h) (Or.inl ⟨by rfl, ?_⟩) (by assumption) ?_
      rotate_left
      · intro w hSw; ((try dsimp only at hSw); go_simp; (try with_reducible rfl))
      simp only [Act.put, List.setIfInBounds_toArray, List.set_cons_zero, List.set_cons_succ]
      refine wpAnyN_one (i := 11) rfl (by kernel_rfl) ?_
      go_wp2_with fail
      have hdr := (Step.refl Nobody wr oj).drew
      refine (hop.out _ _ hdr).mono ?_; rintro e w1 ⟨v1, o1, rfl, hs1, hopn⟩
      obtain ⟨pn, -, rfl, hlog⟩ := hopn.2 hN1H.out
      rw [ha1H.out] at hlog
      have hs1 : Step (Only B) wr oj w1 o1 := (hdr.only B).trans hs1
      clear hopn hHeld
      have tg := htgH.out
      have u2 := (hs1.block _ (lt_of_block hG.out.1.1) (by rw [hG.out.1.2]; exact fun h => tg.2.2.2.1.2 h.symm)).trans hG.out.1.1
      have u3 := (hs1.block _ (lt_of_block hG.out.2.1.1) (by rw [hG.out.2.1.2]; exact fun h => tg.2.2.2.1.2 h.symm)).trans hG.out.2.1.1
      have up := (hs1.block _ hplt (by rw [hG.out.2.2.2.2]; exact fun h => tg.2.1.2.1 h)).trans hG.out.2.2.2.1
      have hS1 := And.intro (cell_of_block (cs := [_]) u2 0) (cell_of_block up 3)
      go_wp2_with fail
      refine ⟨fun _ => hS1, ?_⟩
      refine wpAnyN_tk (i := 12) (v := ?_) rfl (by kernel_rfl) (fun _ _ _ h => panic_put (by decide) h) (Or.inl ⟨by rfl, ?_⟩) (by assumption) ?_
      rotate_left
      · intro w hSw; ((try dsimp only at hSw); go_simp; (try with_reducible rfl))
      simp only [Act.put, List.setIfInBounds_toArray, List.set_cons_zero, List.set_cons_succ]
      refine wpAnyN_tk (i := 13) (v := ?_) rfl (by kernel_rfl) (fun _ _ _ h => panic_put (by decide) h) (Or.inl ⟨by rfl, ?_⟩) (by assumption) ?_
      rotate_left
      · intro w hSw; ((try dsimp only at hSw); go_simp; (try with_reducible rfl))
      simp only [Act.put, List.setIfInBounds_toArray, List.set_cons_zero, List.set_cons_succ]
      refine wpAnyN_tk (i := 14) (v := ?_) rfl (by kernel_rfl) (fun _ _ _ h => panic_put (by decide) h) (Or.inl ⟨by rfl, ?_⟩) (by assumption) ?_
      rotate_left
      · intro w hSw; ((try dsimp only at hSw); go_simp; (try with_reducible rfl))
      simp only [Act.put, List.setIfInBounds_toArray, List.set_cons_zero, List.set_cons_succ]
      refine wpAnyN_tk (i := 15) (v := ?_) rfl (by kernel_rfl) (fun _ _ _ h => panic_put (by decide) h) (Or.inl ⟨by rfl, ?_⟩) (by assumption) ?_
      rotate_left
      · intro w hSw; ((try dsimp only at hSw); go_simp; (try with_reducible rfl))
      simp only [Act.put, List.setIfInBounds_toArray, List.set_cons_zero, List.set_cons_succ]
      refine wpAnyN_tk (i := 16) (v := ?_) rfl (by kernel_rfl) (fun _ _ _ h => panic_put (by decide) h) (Or.inl ⟨by rfl, ?_⟩) (by assumption) ?_
      rotate_left
      · intro w hSw; ((try dsimp only at hSw); go_simp; (try with_reducible rfl))
      simp only [Act.put, List.setIfInBounds_toArray, List.set_cons_zero, List.set_cons_succ]
      refine wpAnyN_done (by kernel_rfl) ?_ _
      have z2 := (hs1.own _ (lt_of_block hG.out.1.1)).trans hG.out.1.2
      have z3 := (hs1.own _ (lt_of_block hG.out.2.1.1)).trans hG.out.2.1.2
      have zp := (hs1.own _ hplt).trans hG.out.2.2.2.2
      have hd1 := hG.out.2.2.1.step hs1 (fun h => tg.2.2.2.1.1 h.symm)
      have hla1 := hlaH.out.step hs1 (fun h => tg.2.2.1.1 h) (fun h => tg.1.2.2.1 h)
      have hkv1 := hkvH.out.step hs1 (fun h => tg.1.2.2.1 h)
      have hst1 := hstK.out.trans (hs1.mono (T' := fun t => t = S ∨ t = A ∨ t = B) (fun _ h => .inr (.inr h)))
      clear hop hs1
      go_wp2_with fail
      refine (must_any w1).mono ?_; rintro e w' ⟨rfl, rfl⟩
      have hset := (Step.refl (Only S) w1 o1).setCell (a := ⟨ps, 2, none⟩) (.pointer (some ⟨pn, 0, none⟩)) (.inl (by show (o1 ps).1 = S; rw [zp]))
      have up2 : (w1.setCell ⟨ps, 2, none⟩ (.pointer (some ⟨pn, 0, none⟩))).heap[ps]? = some (.cells (storeCells pd (.pointer (some ⟨pa, 0, none⟩)) (.pointer (some ⟨pn, 0, none⟩)) H 0 g0 k0.promised k0.current kv false).toArray 156 (0, 0)) := heap_setCell_at (i := 2) _ up
      have hpsb2 : w.heap.size ≠ ps := by rintro rfl; rw [zp] at z2; exact tg.2.1.2.2.2 (Prod.mk.inj z2).1
      have hpsb3 : w.heap.size + 1 ≠ ps := by intro h; rw [h, zp] at z3; exact tg.2.1.2.2.2 (Prod.mk.inj z3).1
      have u22 := (Below.heap_setCell w1 ⟨ps, 2, none⟩ (.pointer (some ⟨pn, 0, none⟩)) w.heap.size hpsb2).trans u2
      have u32 := (Below.heap_setCell w1 ⟨ps, 2, none⟩ (.pointer (some ⟨pn, 0, none⟩)) (w.heap.size + 1) hpsb3).trans u3
      have hlog2 := hlog.step hset (fun h => tg.2.1.2.1 h.symm) (fun h => tg.1.1 h)
      have hd2 := hd1.step hset (fun h => tg.2.1.2.2.1 h.symm)
      have hla2 := hla1.step hset (fun h => tg.2.1.1 h.symm) (fun h => tg.1.1 h)
      have hkv2 := hkv1.step hset (fun h => tg.1.1 h)
      have hst2 := hst1.setCell (a := ⟨ps, 2, none⟩) (.pointer (some ⟨pn, 0, none⟩)) (.inl (by show (o1 ps).1 = S ∨ _; rw [zp]; exact .inl rfl))
      have q1 := hS1.1
      have q2 : w1.frozen? ⟨ps, 2, none⟩ = false := free_of_block up 2
      have q3 := cell_of_block up 2
      obtain ⟨W2, hw2⟩ : ∃ W2, w1.setCell ⟨ps, 2, none⟩ (.pointer (some ⟨pn, 0, none⟩)) = W2 := ⟨_, rfl⟩
      rw [hw2] at up2 u22 u32 hlog2 hd2 hst2 hla2 hkv2
      have hw2H := hidden hw2
      have hbat := hidden (batches_is hlog2 _ rfl)
      have hwf := hlog2
      obtain ⟨-, -, -, -, -, -, -, hwf⟩ := hwf
      clear hset hw2 hS1 up u2 u3 hlog hd1 hst1 hla1 hkv1
      go_wp2_with fail
      rw [hw2H.out]
      refine hbat.out.mono ?_; rintro e w3 ⟨v3, o3', rfl, hs3, vs, hown, -, hrb, hz⟩
      have hslc : Slc w3 o3' v3 a1.records.length vs := own_slc hown (fun k hk => by rw [hz k (hown.lt k hk).1])
      have hrl : a1.records.length ≤ 300 := by
        have h1 := hwf.2.2.2.2.1
        have h2 := hwf.2.2.2.2.2.1
        have h3 : a1.n = H := by rw [← ha1H.out]; exact LogM.length_seenPages _ _ _
        have := hhI; omega
      have hrep := sreplay_any hslc hrb (fun b hb => Nat.le_trans (hwf.2.2.2.2.2.2 b hb) (by omega)) hrl hr1H.out
      simp only [keptV] at hrep
      have hrepH := hidden hrep
      clear hrep hslc hown hrb hz hbat
      go_wp2_with fail
      refine hrepH.out.mono ?_; rintro e w4 ⟨v4, o4, rfl, hs4, lv, rfl, hl4, -⟩
      clear hrepH
      have s34 := hs3.trans hs4
      have hal := hidden (run_alloc_zero (P := Try.prog) w4 108 _ zc108)
      have s5a := (Step.refl Nobody w4 o4).alloc (.cells #[.int .u64 0, .int .u64 0, .slice none 0 0] 108) (Y, 0)
      have b5a : (w4.alloc (.cells #[.int .u64 0, .int .u64 0, .slice none 0 0] 108)).heap[w4.heap.size]? = some (.cells [.int .u64 0, .int .u64 0, .slice none 0 0].toArray 108 (0, 0)) := heap_alloc_new w4 _
      have y5a : tagAt o4 w4.heap.size (Y, 0) w4.heap.size = (Y, 0) := tagAt_same _ _ _
      obtain ⟨lla, llc, hlv⟩ := hl4.form
      obtain ⟨hso, hsb⟩ := run_store_agg (P := Try.prog) (ty := 108) (vs := [.int .u64 (k1.promised.toNat : Int), .int .u64 (k1.current.toNat : Int), lv]) b5a rfl (by kernel_rfl) (by rw [hlv]; rfl)
      have hsoH := hidden hso
      have s5 := (s5a.mono (T' := Only Y) (fun _ h => h.elim)).setCells w4.heap.size 0 [.int .u64 (k1.promised.toNat : Int), .int .u64 (k1.current.toNat : Int), lv] (.inl (by show (tagAt o4 w4.heap.size (Y, 0) w4.heap.size).1 = Y; rw [y5a]))
      have hst5 := (hst2.trans (s34.mono (T' := fun t => t = S ∨ t = A ∨ t = B) (fun _ h => h.elim))).trans ((s5a.mono (T' := fun t => t = S ∨ t = A ∨ t = B) (fun _ h => h.elim)).setCells w4.heap.size 0 [.int .u64 (k1.promised.toNat : Int), .int .u64 (k1.current.toNat : Int), lv] (.inr (Nat.le_refl _)))
      generalize tagAt o4 w4.heap.size (Y, 0) = o5 at *
      obtain ⟨W5, hW5⟩ : ∃ W5, (w4.alloc (.cells #[.int .u64 0, .int .u64 0, .slice none 0 0] 108)).setCells w4.heap.size 0 [.int .u64 (k1.promised.toNat : Int), .int .u64 (k1.current.toNat : Int), lv] = W5 := ⟨_, rfl⟩
      rw [hW5] at hsoH hsb s5 hst5
      have e5 := (hs4.block w.heap.size (lt_of_block ((hs3.block _ (lt_of_block u22) (fun h => h)).trans u22)) (fun h => h)).trans ((hs3.block _ (lt_of_block u22) (fun h => h)).trans u22)
      have e53 := (hs4.block (w.heap.size + 1) (lt_of_block ((hs3.block _ (lt_of_block u32) (fun h => h)).trans u32)) (fun h => h)).trans ((hs3.block _ (lt_of_block u32) (fun h => h)).trans u32)
      have e5p := (hs4.block ps (lt_of_block ((hs3.block _ (lt_of_block up2) (fun h => h)).trans up2)) (fun h => h)).trans ((hs3.block _ (lt_of_block up2) (fun h => h)).trans up2)
      have hW5b : ∀ k, k < w4.heap.size → W5.heap[k]? = w4.heap[k]? := fun k hk => by
        rw [← hW5, heap_setCells_other _ _ _ _ _ (by omega)]; exact Below.heap_alloc _ _ _ hk
      have e5 := (hW5b _ (lt_of_block e5)).trans e5
      have e53 := (hW5b _ (lt_of_block e53)).trans e53
      have hps8 : w4.heap.size ≠ ps := by have := lt_of_block e5p; omega
      have h28 : w.heap.size ≠ w4.heap.size := by have := hst2.size; have := s34.size; have := lt_of_block u22; omega
      have e5p := (hW5b _ (lt_of_block e5p)).trans e5p
      have sAll := (s34.only Y).trans s5
      have z25 := (sAll.own _ (lt_of_block u22)).trans z2
      have z35 := (sAll.own _ (lt_of_block u32)).trans z3
      have zp5 := (sAll.own _ (lt_of_block up2)).trans zp
      have hlog5 := hlog2.step sAll (fun h => tg.2.2.2.1.2 h) (fun h => tg.1.2.2.2.2 h)
      have hd5 := hd2.step sAll (fun h => tg.2.2.2.2 h)
      have hla5 := hla2.step sAll (fun h => tg.2.2.1.2.2 h) (fun h => tg.1.2.2.2.2 h)
      have hkv5 := hkv2.step sAll (fun h => tg.1.2.2.2.2 h)
      have hB5 := hidden (And.intro hla5 hkv5)
      have hl5 := (hl4.step s5 (fun h => tg.1.2.2.2.2 h)).low (Nat.le_trans hst2.size hs3.size)
      have hG5 := hidden (And.intro (And.intro e5 z25) (And.intro e53 z35))
      have hA5 := hidden (And.intro zp5 (And.intro hlog5 (And.intro hd5 (And.intro hl5 hst5))))
      have hbK := hidden hsb
      have pH := hidden e5p
      have c5 := cell_of_block (cs := [_]) e5 0
      have p55 : W5.cell? ⟨ps, 5, none⟩ = some (.int .u64 (g0.toNat : Int)) := by simpa [storeCells] using cell_of_block e5p 5
      obtain ⟨b8, hb8⟩ : ∃ b8, w4.heap.size = b8 := ⟨_, rfl⟩
      rw [hb8] at hal hsoH hbK hps8 h28
      have hlvH := hidden hlv
      clear hlv hso s5a s5 b5a y5a hsb hst5 hW5 hW5b e5 e53 e5p sAll z25 z35 zp5 hlog5 hd5 hl5 hl4 s34 hs3 hs4 hlog2 hd2 hst2 u22 u32 up2 z2 z3 zp q1 q2 q3 hw2H W2 hb8 hla5 hkv5 hla2 hkv2
      by_cases hc : g0.toNat < g1.toNat
      · have hcb : decide (g0.toNat < g1.toNat) = true := decide_eq_true hc
        go_wp2_with (first
          | ((with_reducible apply lit_alloc); exact hal.out; simp only [Act.put, List.setIfInBounds_toArray, List.set_cons_zero, List.set_cons_succ])
          | ((with_reducible apply lit_store); exact hsoH.out; simp only [Act.put]))
        have p0 : (W5.drew).heap[ps]? = some (.cells (storeCells pd (.pointer (some ⟨pa, 0, none⟩)) (.pointer (some ⟨pn, 0, none⟩)) H 0 g0 k0.promised k0.current kv false).toArray 156 (0, 0)) := pH.out
        have p1 := heap_setCell_at (i := 4) (.int .i64 1) p0
        have p2 := heap_setCell_at (i := 5) (.int .u64 (g1.toNat : Int)) p1
        have p3 : ((((W5.drew).setCell ⟨ps, 4, none⟩ (.int .i64 1)).setCell ⟨ps, 5, none⟩ (.int .u64 (g1.toNat : Int))).setCells ps 6 [.int .u64 (k1.promised.toNat : Int), .int .u64 (k1.current.toNat : Int), lv]).heap[ps]? = some (.cells (storeCells pd (.pointer (some ⟨pa, 0, none⟩)) (.pointer (some ⟨pn, 0, none⟩)) H 1 g1 k1.promised k1.current lv false).toArray 156 (0, 0)) := heap_setCells_same ps 156 _ 6 _ _ p2 (by simp [storeCells])
        have hso2 := hidden (run_storeAt_mid (P := Try.prog) (((W5.drew).setCell ⟨ps, 4, none⟩ (.int .i64 1)).setCell ⟨ps, 5, none⟩ (.int .u64 (g1.toNat : Int))) ps 6 108 #[.int .u64 (k1.promised.toNat : Int), .int .u64 (k1.current.toNat : Int), lv] (there_of_block p2 6 3 (by simp [storeCells])) size108 (by rw [hlvH.out]; simp [Value.oneCell']))
        have zp5 := hA5.out.1
        have hset6 := (((Step.refl (Only S) W5 o5).drew.setCell (a := ⟨ps, 4, none⟩) (.int .i64 1) (.inl (by show (o5 ps).1 = S; rw [zp5]))).setCell (a := ⟨ps, 5, none⟩) (.int .u64 (g1.toNat : Int)) (.inl (by show (o5 ps).1 = S; rw [zp5]))).setCells ps 6 [.int .u64 (k1.promised.toNat : Int), .int .u64 (k1.current.toNat : Int), lv] (.inl (by show (o5 ps).1 = S; rw [zp5]))
        have v2 := (hset6.block _ (lt_of_block hG5.out.1.1) (by rw [hG5.out.1.2]; exact fun h => tg.2.1.2.2.2 h.symm)).trans hG5.out.1.1
        have v3' := (hset6.block _ (lt_of_block hG5.out.2.1) (by rw [hG5.out.2.2]; exact fun h => tg.2.1.2.2.2 h.symm)).trans hG5.out.2.1
        have hFIN := hidden (show OpenSt ((((W5.drew).setCell ⟨ps, 4, none⟩ (.int .i64 1)).setCell ⟨ps, 5, none⟩ (.int .u64 (g1.toNat : Int))).setCells ps 6 [.int .u64 (k1.promised.toNat : Int), .int .u64 (k1.current.toNat : Int), lv]) o5 S A B D Y w.heap.size ps pd w.heap.size H d a0 a1 g0 g1 k0 k1 2 from
          ⟨⟨⟨v2, hG5.out.1.2⟩, ⟨v3', hG5.out.2.2⟩, hA5.out.2.2.1.step hset6 (fun h => tg.2.1.2.2.1 h.symm)⟩, .inr (.inr ⟨rfl, by unfold openS; rw [if_pos hc]; exact ⟨B, A, pn, pa, 1, lv, .inr ⟨rfl, rfl⟩, ⟨_, _, p3, .inr ⟨rfl, rfl, rfl⟩, zp5⟩, hA5.out.2.2.2.1.step hset6 (fun h => tg.1.1 h), hA5.out.2.1.step hset6 (fun h => tg.2.1.2.1 h.symm) (fun h => tg.1.1 h), hB5.out.1.step hset6 (fun h => tg.2.1.1 h.symm) (fun h => tg.1.1 h), hA5.out.2.2.1.step hset6 (fun h => tg.2.1.2.2.1 h.symm)⟩⟩)⟩)
        have hst6 := hidden (hA5.out.2.2.2.2.trans (hset6.mono (T' := fun t => t = S ∨ t = A ∨ t = B) (fun _ h => .inl h)))
        have f54 : (W5.drew).frozen? ⟨ps, 4, none⟩ = false := free_of_block p0 4
        have f55 : (W5.drew).frozen? ⟨ps, 5, none⟩ = false := free_of_block p0 5
        have c54 := cell_of_block p0 4
        have c55 := cell_of_block p0 5
        simp only [storeCells, List.getElem?_cons_succ, List.getElem?_cons_zero] at c54 c55
        have d2 : (W5.drew).heap[w.heap.size]? = _ := hG5.out.1.1
        have d8 : (W5.drew).heap[b8]? = _ := hbK.out
        have d21 := (Below.heap_setCell (W5.drew) ⟨ps, 4, none⟩ (.int .i64 1) w.heap.size hpsb2).trans d2
        have d81 := (Below.heap_setCell (W5.drew) ⟨ps, 4, none⟩ (.int .i64 1) b8 hps8).trans d8
        have d22 := (Below.heap_setCell ((W5.drew).setCell ⟨ps, 4, none⟩ (.int .i64 1)) ⟨ps, 5, none⟩ (.int .u64 (g1.toNat : Int)) w.heap.size hpsb2).trans d21
        have d82 := (Below.heap_setCell ((W5.drew).setCell ⟨ps, 4, none⟩ (.int .i64 1)) ⟨ps, 5, none⟩ (.int .u64 (g1.toNat : Int)) b8 hps8).trans d81
        have d23 := (heap_setCells_other ps [.int .u64 (k1.promised.toNat : Int), .int .u64 (k1.current.toNat : Int), lv] 6 (((W5.drew).setCell ⟨ps, 4, none⟩ (.int .i64 1)).setCell ⟨ps, 5, none⟩ (.int .u64 (g1.toNat : Int))) w.heap.size hpsb2).trans d22
        have d83 := (heap_setCells_other ps [.int .u64 (k1.promised.toNat : Int), .int .u64 (k1.current.toNat : Int), lv] 6 (((W5.drew).setCell ⟨ps, 4, none⟩ (.int .i64 1)).setCell ⟨ps, 5, none⟩ (.int .u64 (g1.toNat : Int))) b8 hps8).trans d82
        have hS17 : W5.drew.cell? ⟨w.heap.size, 0, none⟩ = some (.pointer (some ⟨ps, 0, none⟩)) ∧ W5.drew.heap[b8]? = some (.cells [.int .u64 (k1.promised.toNat : Int), .int .u64 (k1.current.toNat : Int), lv].toArray 108 (0, 0)) := And.intro c5 hbK.out
        have hS8 : ((W5.drew).setCell ⟨ps, 4, none⟩ (.int .i64 1)).cell? ⟨w.heap.size, 0, none⟩ = some (.pointer (some ⟨ps, 0, none⟩)) ∧ ((W5.drew).setCell ⟨ps, 4, none⟩ (.int .i64 1)).heap[b8]? = some (.cells [.int .u64 (k1.promised.toNat : Int), .int .u64 (k1.current.toNat : Int), lv].toArray 108 (0, 0)) := And.intro (cell_of_block (cs := [_]) d21 0) d81
        have hS11 : (((W5.drew).setCell ⟨ps, 4, none⟩ (.int .i64 1)).setCell ⟨ps, 5, none⟩ (.int .u64 (g1.toNat : Int))).cell? ⟨w.heap.size, 0, none⟩ = some (.pointer (some ⟨ps, 0, none⟩)) ∧ (((W5.drew).setCell ⟨ps, 4, none⟩ (.int .i64 1)).setCell ⟨ps, 5, none⟩ (.int .u64 (g1.toNat : Int))).heap[b8]? = some (.cells [.int .u64 (k1.promised.toNat : Int), .int .u64 (k1.current.toNat : Int), lv].toArray 108 (0, 0)) := And.intro (cell_of_block (cs := [_]) d22 0) d82
        have hS14 : ((((W5.drew).setCell ⟨ps, 4, none⟩ (.int .i64 1)).setCell ⟨ps, 5, none⟩ (.int .u64 (g1.toNat : Int))).setCells ps 6 [.int .u64 (k1.promised.toNat : Int), .int .u64 (k1.current.toNat : Int), lv]).cell? ⟨w.heap.size, 0, none⟩ = some (.pointer (some ⟨ps, 0, none⟩)) ∧ ((((W5.drew).setCell ⟨ps, 4, none⟩ (.int .i64 1)).setCell ⟨ps, 5, none⟩ (.int .u64 (g1.toNat : Int))).setCells ps 6 [.int .u64 (k1.promised.toNat : Int), .int .u64 (k1.current.toNat : Int), lv]).heap[b8]? = some (.cells [.int .u64 (k1.promised.toNat : Int), .int .u64 (k1.current.toNat : Int), lv].toArray 108 (0, 0)) := And.intro (cell_of_block (cs := [_]) d23 0) d83
        clear p0 p1 p2 p3 hset6 v2 v3' zp5 d2 d8 d21 d81 d22 d82 d23 d83 hcb p55 hsoH hal pH c5 hpsb hpsb2 hpsb3 hps8 h28
        obtain ⟨V, hV⟩ : ∃ V, W5.drew = V := ⟨_, rfl⟩
        rw [hV] at hFIN hst6 f54 f55 c54 c55 hS17 hS8 hS11 hS14 hso2
        have hS8H := hidden hS8
        have hS11H := hidden hS11
        have hS14H := hidden hS14
        clear hS8 hS11 hS14
        refine wp_region_need (fun w' => w'.cell? ⟨w.heap.size, 0, none⟩ = some (.pointer (some ⟨ps, 0, none⟩)) ∧ w'.heap[b8]? = some (.cells [.int .u64 (k1.promised.toNat : Int), .int .u64 (k1.current.toNat : Int), lv].toArray 108 (0, 0))) (fun _ => true) (by kernel_rfl) (by rw [hV]; exact hS17) (fun hHeld => ?_)
        clear hHeld
        rw [hV]
        clear hV
        have hHeldV := hS17
        refine wpAnyN_tk (i := 0) (v := ?_) rfl (by kernel_rfl) (fun _ _ _ h => panic_put (by decide) h) (Or.inl ⟨by rfl, ?_⟩) (by assumption) ?_
        rotate_left
        · intro w hSw; ((try dsimp only at hSw); go_simp; (try with_reducible rfl))
        simp only [Act.put, List.setIfInBounds_toArray, List.set_cons_zero, List.set_cons_succ]
        refine wpAnyN_tk (i := 1) (v := ?_) rfl (by kernel_rfl) (fun _ _ _ h => panic_put (by decide) h) (Or.inl ⟨by rfl, ?_⟩) (by assumption) ?_
        rotate_left
        · intro w hSw; ((try dsimp only at hSw); go_simp; (try with_reducible rfl))
        simp only [Act.put, List.setIfInBounds_toArray, List.set_cons_zero, List.set_cons_succ]
        refine wpAnyN_tk (i := 2) (v := ?_) rfl (by kernel_rfl) (fun _ _ _ h => panic_put (by decide) h) (Or.inl ⟨by rfl, ?_⟩) (by assumption) ?_
        rotate_left
        · intro w hSw; ((try dsimp only at hSw); go_simp; (try with_reducible rfl))
        simp only [Act.put, List.setIfInBounds_toArray, List.set_cons_zero, List.set_cons_succ]
        refine wpAnyN_tk (i := 3) (v := ?_) rfl (by kernel_rfl) (fun _ _ _ h => panic_put (by decide) h) (Or.inl ⟨by rfl, ?_⟩) (by assumption) ?_
        rotate_left
        · intro w hSw; ((try dsimp only at hSw); go_simp; (try with_reducible rfl))
        simp only [Act.put, List.setIfInBounds_toArray, List.set_cons_zero, List.set_cons_succ]
        refine wpAnyN_tk (i := 4) (v := ?_) rfl (by kernel_rfl) (fun _ _ _ h => panic_put (by decide) h) (Or.inl ⟨by rfl, ?_⟩) (by assumption) ?_
        rotate_left
        · intro w hSw; ((try dsimp only at hSw); go_simp; (try with_reducible rfl))
        simp only [Act.put, List.setIfInBounds_toArray, List.set_cons_zero, List.set_cons_succ]
        refine wpAnyN_tk (i := 5) (v := .agg [.int .u64 (k1.promised.toNat : Int), .int .u64 (k1.current.toNat : Int), lv].toArray) rfl (by kernel_rfl) (fun _ _ _ h => panic_put (by decide) h) (yieldsIf_load_mid rfl 108 (.tmp 8) rfl b8 0 rfl [.int .u64 (k1.promised.toNat : Int), .int .u64 (k1.current.toNat : Int), lv] _ (fun w h => range_whole h.2) Try.underlying108 rfl (by kernel_rfl)) (by assumption) ?_
        simp only [Act.put, List.setIfInBounds_toArray, List.set_cons_zero, List.set_cons_succ]
        refine wpAnyN_tk (i := 6) (v := ?_) rfl (by kernel_rfl) (fun _ _ _ h => panic_put (by decide) h) (Or.inl ⟨by rfl, ?_⟩) (by assumption) ?_
        rotate_left
        · intro w hSw; ((try dsimp only at hSw); go_simp; (try with_reducible rfl))
        simp only [Act.put, List.setIfInBounds_toArray, List.set_cons_zero, List.set_cons_succ]
        refine wpAnyN_tk (i := 7) (v := ?_) rfl (by kernel_rfl) (fun _ _ _ h => panic_put (by decide) h) (Or.inl ⟨by rfl, ?_⟩) (by assumption) ?_
        rotate_left
        · intro w hSw; ((try dsimp only at hSw); go_simp; (try with_reducible rfl))
        simp only [Act.put, List.setIfInBounds_toArray, List.set_cons_zero, List.set_cons_succ]
        refine wpAnyN_one (i := 8) rfl (by kernel_rfl) ?_
        go_wp2_with fail
        have hS8 := hS8H.out
        first | refine ⟨fun _ => hS8, ?_⟩ | refine ⟨hS8.2, ?_⟩
        refine wpAnyN_tk (i := 9) (v := ?_) rfl (by kernel_rfl) (fun _ _ _ h => panic_put (by decide) h) (Or.inl ⟨by rfl, ?_⟩) (by assumption) ?_
        rotate_left
        · intro w hSw; ((try dsimp only at hSw); go_simp; (try with_reducible rfl))
        simp only [Act.put, List.setIfInBounds_toArray, List.set_cons_zero, List.set_cons_succ]
        refine wpAnyN_tk (i := 10) (v := ?_) rfl (by kernel_rfl) (fun _ _ _ h => panic_put (by decide) h) (Or.inl ⟨by rfl, ?_⟩) (by assumption) ?_
        rotate_left
        · intro w hSw; ((try dsimp only at hSw); go_simp; (try with_reducible rfl))
        simp only [Act.put, List.setIfInBounds_toArray, List.set_cons_zero, List.set_cons_succ]
        refine wpAnyN_one (i := 11) rfl (by kernel_rfl) ?_
        go_wp2_with fail
        have hS11 := hS11H.out
        first | refine ⟨fun _ => hS11, ?_⟩ | refine ⟨hS11.2, ?_⟩
        refine wpAnyN_tk (i := 12) (v := ?_) rfl (by kernel_rfl) (fun _ _ _ h => panic_put (by decide) h) (Or.inl ⟨by rfl, ?_⟩) (by assumption) ?_
        rotate_left
        · intro w hSw; ((try dsimp only at hSw); go_simp; (try with_reducible rfl))
        simp only [Act.put, List.setIfInBounds_toArray, List.set_cons_zero, List.set_cons_succ]
        refine wpAnyN_tk (i := 13) (v := ?_) rfl (by kernel_rfl) (fun _ _ _ h => panic_put (by decide) h) (Or.inl ⟨by rfl, ?_⟩) (by assumption) ?_
        rotate_left
        · intro w hSw; ((try dsimp only at hSw); go_simp; (try with_reducible rfl))
        simp only [Act.put, List.setIfInBounds_toArray, List.set_cons_zero, List.set_cons_succ]
        refine wpAnyN_one (i := 14) rfl (by kernel_rfl) ?_
        apply lit_store
        · exact hso2.out
        simp only [Act.put]
        go_wp2_with fail
        have hS14 := hS14H.out
        first | refine ⟨fun _ => hS14, ?_⟩ | refine ⟨hS14.2, ?_⟩
        refine wpAnyN_done (by kernel_rfl) ?_ _
        go_wp2_with fail
        go_roundw
        case rel => exact ⟨2, o5, by omega, by first | rfl | go_num, hFIN.out, hst6.out⟩
        case measure => simp [intOf]
      · have hcb : decide (g0.toNat < g1.toNat) = false := decide_eq_false hc
        go_wp2_with (first
          | ((with_reducible apply lit_alloc); exact hal.out; simp only [Act.put, List.setIfInBounds_toArray, List.set_cons_zero, List.set_cons_succ])
          | ((with_reducible apply lit_store); exact hsoH.out; simp only [Act.put]))
        refine ⟨⟨2, o5, by omega, rfl, ⟨⟨⟨hG5.out.1.1, hG5.out.1.2⟩, ⟨hG5.out.2.1, hG5.out.2.2⟩, hA5.out.2.2.1⟩, .inr (.inr ⟨rfl, by unfold openS; rw [if_neg hc]; exact ⟨A, B, pa, pn, 0, kv, .inl ⟨rfl, rfl⟩, ⟨_, _, pH.out, .inl ⟨rfl, rfl, rfl⟩, hA5.out.1⟩, hB5.out.2, hB5.out.1, hA5.out.2.1, hA5.out.2.2.1⟩⟩)⟩, hA5.out.2.2.2.2⟩, by simp [intOf]⟩
    · have hset := ((Step.refl (Only Y) wr oj).setCell (a := ⟨w.heap.size, 0, none⟩) (.pointer (some ⟨ps, 0, none⟩)) (.inl (by show (oj w.heap.size).1 = Y; rw [ho2]))).setCell (a := ⟨w.heap.size + 1, 0, none⟩) (.int .i64 0) (.inl (by show (oj (w.heap.size + 1)).1 = Y; rw [ho3]))
      have hstF := (hst.setCell (a := ⟨w.heap.size, 0, none⟩) (.pointer (some ⟨ps, 0, none⟩)) (.inr (Nat.le_refl _))).setCell (a := ⟨w.heap.size + 1, 0, none⟩) (.int .i64 0) (.inr (by show w.heap.size ≤ w.heap.size + 1; omega))
      have hF := hidden (And.intro hstF (hfin.step hset (fun t ht => by
        have := htgH.out
        subst ht
        refine ⟨fun h => this.1.2.2.2.2 h.symm, fun h => ?_⟩
        rcases h with h | h | h | h
        · exact this.2.1.2.2.2 h.symm
        · exact this.2.2.1.2.2 h.symm
        · exact this.2.2.2.1.2 h.symm
        · exact this.2.2.2.2 h.symm)))
      have e2 := heap_setCell_at (cs := [_]) (i := 0) (.pointer (some ⟨ps, 0, none⟩)) hb2
      have e23 := (Below.heap_setCell wr ⟨w.heap.size, 0, none⟩ (.pointer (some ⟨ps, 0, none⟩)) (w.heap.size + 1) (by show w.heap.size + 1 ≠ w.heap.size; omega)).trans hb3
      have e3 := heap_setCell_at (cs := [_]) (i := 0) (.int .i64 0) e23
      have e32 := (Below.heap_setCell (wr.setCell ⟨w.heap.size, 0, none⟩ (.pointer (some ⟨ps, 0, none⟩))) ⟨w.heap.size + 1, 0, none⟩ (.int .i64 0) w.heap.size (by show w.heap.size ≠ w.heap.size + 1; omega)).trans e2
      have k2 := cell_of_block (cs := [_]) e32 0
      have k3 := cell_of_block (cs := [_]) e3 0
      have k2H := hidden k2
      have k3H := hidden k3
      clear hset hstF e2 e23 e3 e32 k2 k3 hst hfin
      go_wp2_with fail
      refine leaves_cons (f := 94) (args := #[.pointer (some ⟨w.heap.size, 0, none⟩), .pointer (some ⟨w.heap.size + 1, 0, none⟩)]) (by simp) (by simp [go_sem]) ?_
      refine (catch_idle _ _ _).mono ?_
      rintro e u' w'' ⟨rfl, rfl, rfl⟩
      have k2 := k2H.out
      have k3 := k3H.out
      refine ⟨.tuple #[.pointer (some ⟨ps, 0, none⟩), .int .i64 0], by simp [results, Try.results53, go_sem, k2, k3], _, oj, rfl, hF.out.1, ps, hpsw, rfl, hF.out.2⟩
end
end Go.Proofs.YtfgggkheadfiaaaR
/- Plain laws: a store's records, read back, say what was written. No program in sight. -/
namespace Go.Proofs.YtfgggkheadfiaaaR
open Go Go.RowKit

theorem RdM.num_put {n : Nat} (hn : n ≤ 8) (S : BitVec 64) (hS : S.toNat < 256 ^ n) (r : List UInt8) : (RdM.mk (be n S ++ r) false).num n = (S, ⟨r, false⟩) := by
  unfold RdM.num RdM.take
  have hl : ¬ (be n S ++ r).length < n := by rw [List.length_append, length_be]; omega
  simp only [Bool.false_eq_true, if_false, if_neg hl, Option.map_some, Option.getD_some, Prod.mk.injEq, RdM.mk.injEq, and_true]
  rw [List.take_left' (length_be n S), List.drop_left' (length_be n S)]
  exact ⟨BitVec.eq_of_toNat_eq (num_be hn S hS), rfl⟩
theorem RdM.num8_put (S : BitVec 64) (r : List UInt8) : (RdM.mk (be 8 S ++ r) false).num 8 = (S, ⟨r, false⟩) :=
  RdM.num_put (by omega) S (Nat.lt_of_lt_of_le S.isLt (by decide)) r
theorem RdM.num1_put (c : UInt8) (r : List UInt8) : (RdM.mk (c :: r) false).num 1 = (BitVec.ofNat 64 c.toNat, ⟨r, false⟩) := by
  have hc := c.toNat_lt
  have := RdM.num_put (n := 1) (by omega) (BitVec.ofNat 64 c.toNat) (by rw [BitVec.toNat_ofNat, Nat.mod_eq_of_lt (by omega)]; omega) r
  rw [be_one] at this
  exact this
theorem RdM.text_put (b r : List UInt8) (hb : b.length < 4294967296) : (RdM.mk (be 4 (BitVec.ofNat 64 b.length) ++ (b ++ r)) false).text = (b, ⟨r, false⟩) := by
  have hl : (BitVec.ofNat 64 b.length).toNat = b.length := by rw [BitVec.toNat_ofNat, Nat.mod_eq_of_lt (by omega)]
  unfold RdM.text
  rw [RdM.num_put (by omega) _ (by rw [hl]; omega)]
  simp only [hl]
  unfold RdM.txt RdM.take
  have h2 : ¬ (b ++ r).length < b.length := by rw [List.length_append]; omega
  simp only [Bool.false_eq_true, if_false, if_neg h2, Option.getD_some, List.take_left, List.drop_left]
/-- Lines that records can hold. -/
def Short (ls : List LineM) : Prop := ∀ x ∈ ls, x.b.length < 4294967296
theorem readK_put (ls : List LineM) (h : Short ls) (r : List UInt8) : ∀ k, k ≤ ls.length → readK k ⟨encs ls ++ r, false⟩ = (ls.take k, ⟨encs (ls.drop k) ++ r, false⟩)
  | 0, _ => by simp [readK]
  | k + 1, hk => by
    have ih := readK_put ls h r k (by omega)
    have hx : ls[k]? = some ls[k] := List.getElem?_eq_getElem (by omega)
    have hd : ls.drop k = ls[k] :: ls.drop (k + 1) := List.drop_eq_getElem_cons (by omega)
    have he : encs (ls.drop k) ++ r = be 8 ls[k].e ++ (be 4 (BitVec.ofNat 64 ls[k].b.length) ++ (ls[k].b ++ (encs (ls.drop (k + 1)) ++ r))) := by
      rw [hd]; unfold encs; rw [List.flatMap_cons]; simp [LineM.enc]
    unfold readK
    rw [ih, he]
    simp only [RdM.num8_put]
    rw [RdM.text_put _ _ (h _ (List.getElem_mem _))]
    simp only [Prod.mk.injEq, and_true]
    rw [List.take_add_one, hx]; rfl
theorem lines_put (ls : List LineM) (h : Short ls) (hn : ls.length ≤ 256) (r : List UInt8) : (RdM.mk (encL ls ++ r) false).lines = (ls, ⟨r, false⟩) := by
  have hl : (BitVec.ofNat 64 ls.length).toNat = ls.length := by rw [BitVec.toNat_ofNat, Nat.mod_eq_of_lt (by omega)]
  have hc : (RdM.mk (encL ls ++ r) false).count 256 = (ls.length, ⟨encs ls ++ r, false⟩) := by
    unfold RdM.count encL
    rw [List.append_assoc, RdM.num8_put]
    simp only [hl]
    rw [if_neg (by omega)]
  unfold RdM.lines
  rw [hc]
  simp only
  rw [readK_put ls h r _ (Nat.le_refl _)]
  simp [encs]
theorem done_empty : (RdM.mk [] false).done = 0 := rfl
theorem recOne_promise (k : KeptM) (e : BitVec 64) : recOne k (2 :: be 8 e) = some { k with promised := e } := by
  have h := RdM.num8_put e []
  rw [List.append_nil] at h
  unfold recOne
  simp only [RdM.num1_put]
  rw [if_pos (by decide)]
  unfold KeptM.recPromise
  simp only [h, done_empty, if_true]
theorem recOne_adopt (k : KeptM) (e : BitVec 64) (ls : List LineM) (h : Short ls) (hn : ls.length ≤ 256) : recOne k (3 :: (be 8 e ++ encL ls)) = some ⟨e, e, ls⟩ := by
  have hl := lines_put ls h hn []
  rw [List.append_nil] at hl
  unfold recOne
  simp only [RdM.num1_put]
  rw [if_neg (by decide), if_pos (by decide)]
  unfold KeptM.recAdopt
  simp only [RdM.num8_put, hl, done_empty, if_true]
theorem recOne_append (k : KeptM) (ls : List LineM) (h : Short ls) (hn : ls.length ≤ 256) : recOne k (4 :: encL ls) = some { k with lines := k.lines ++ ls } := by
  have hl := lines_put ls h hn []
  rw [List.append_nil] at hl
  unfold recOne
  simp only [RdM.num1_put]
  rw [if_neg (by decide), if_neg (by decide), if_pos (by decide)]
  unfold KeptM.recAppend
  simp only [hl, done_empty, if_true]
theorem recFirst_all (age p c : BitVec 64) (ls : List LineM) (ha : 0 < age.toNat) (h : Short ls) (hn : ls.length ≤ 256) : recFirst (allE age p c ls) = some (age, ⟨p, c, ls⟩) := by
  have hl := lines_put ls h hn []
  rw [List.append_nil] at hl
  unfold recFirst allE
  simp only [RdM.num1_put, RdM.num8_put, hl, done_empty]
  rw [if_pos ⟨by decide, trivial, ha⟩]
theorem recAll_snoc (b : List UInt8) : ∀ (rs : List (List UInt8)) (k kf kn : KeptM), recAll k rs = some kf → recOne kf b = some kn → recAll k (rs ++ [b]) = some kn
  | [], k, kf, kn, h, h1 => by
    simp only [recAll, Option.some.injEq] at h
    subst h
    simp [recAll, h1]
  | x :: r, k, kf, kn, h, h1 => by
    obtain ⟨k', h2, h3⟩ := recAll_cons h
    have := recAll_snoc b r k' kf kn h3 h1
    simp only [List.cons_append, recAll, h2, this]
/-- One more record. -/
theorem replay_snoc {rs : List (List UInt8)} {age : BitVec 64} {k kn : KeptM} {b : List UInt8} (h : replayM rs = some (age, k)) (ha : 0 < age.toNat) (h1 : recOne k b = some kn) : replayM (rs ++ [b]) = some (age, kn) := by
  cases rs with
  | nil =>
    simp only [replayM, Option.some.injEq, Prod.mk.injEq] at h
    obtain ⟨rfl, -⟩ := h
    simp at ha
  | cons x r =>
    change (match recFirst x with | some (a, k) => (recAll k r).map (fun k' => (a, k')) | none => none) = some (age, k) at h
    cases hf : recFirst x with
    | none => rw [hf] at h; cases h
    | some y =>
      obtain ⟨a, k0⟩ := y
      rw [hf] at h
      simp only [Option.map_eq_some_iff, Prod.mk.injEq] at h
      obtain ⟨k', h2, rfl, rfl⟩ := h
      simp only [List.cons_append, replayM, hf, recAll_snoc b r k0 _ kn h2 h1, Option.map_some]
theorem replay_one {b : List UInt8} {age : BitVec 64} {k : KeptM} (h : recFirst b = some (age, k)) : replayM [b] = some (age, k) := by
  simp [replayM, h, recAll]
end Go.Proofs.YtfgggkheadfiaaaR
