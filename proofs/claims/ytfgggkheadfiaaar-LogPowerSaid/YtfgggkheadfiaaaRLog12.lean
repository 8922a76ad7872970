/- The range over log.cut: the iterator's contract; a region that draws, within a round. -/
import Derived.RangeFuncNested
import Derived.RangeFuncBound
import Derived.RangeFuncCalls
import Derived.RangeFuncLeaves
import Derived.Shelf.Abstract
import Derived.Shelf.RegionOpen
import Derived.WalkKit
import Derived.OwnWalkIn
import Derived.TacticsInMore
import Derived.LoopNIn
import Derived.LoopIn
import Derived.OrdersIn
import Derived.Test.YtfgggkheadfiaaaRLog11
namespace Go.Proofs.YtfgggkheadfiaaaR
open Go Go.RowKit Go.Shelf
attribute [local go_sem] Oper.semAt_some

/-! ### A region within a round -/
section
variable {P : Program} {ops : Array Oper} {Q : Exit → Act → World → Prop} {md : Region.Mode} {n l : Nat}
theorem rowsIn_wide {row : String} {args : Array Value} {w : World} {R : Value → World → Prop} (h : Rows P row args w R) : RowsIn (Fence.wide.inRound l) n P row args w R :=
  fun c cs _ => let ⟨v, w', r, s⟩ := h c cs; ⟨v, w', r, stepsIn_wide.2 s⟩
theorem wpOp_in (hdef : ∀ (o : Oper) (c : Call), o ∈ ops → o.op ≠ .defer c) (hno : ¬ LetsOut Q) {i : Nat} {K : Act → World → Prop} {a : Act} {w : World} (h : wpOp P ops Q i K a w) : wpOpIn (Fence.wide.inRound l) n P ops Q i K a w := by
  unfold wpOp at h
  unfold wpOpIn
  cases ho : ops[i]? with
  | none => simpa [ho] using h
  | some o =>
    simp only [ho] at h ⊢
    split
    · rename_i hw
      rw [if_pos hw] at h
      rcases h with h | ⟨_, hl⟩
      · refine ⟨fun _ _ => trivial, ?_⟩
        have hs : Oper.semAt (Fence.wide.inRound l).round a.eval o = execOp a.eval o := Oper.semAt_some l a.eval o (fun c => hdef o c (Array.mem_of_getElem? ho))
        rw [hs]
        unfold Oper.wp at h
        generalize (execOp a.eval o).run P w = r at *
        cases r with
        | ok x w' =>
          cases x <;> simp only [Oper.upon, Oper.uponIn] at h ⊢
          case value u => exact h
          case skip => exact h
          case defer d => exact h
          case enter f args => exact ⟨fun hd => by simp [Fence.wide, Fence.inRound] at hd, CallsIn.inRound l (callsIn_wide.2 h)⟩
          case row row args => exact ⟨fun hd => by simp [Fence.wide, Fence.inRound] at hd, rowsIn_wide h⟩
        | halt x w' =>
          cases x <;> simp only [Oper.upon, Oper.uponIn] at h ⊢
          case panic u => exact h
      · exact absurd hl hno
    · rename_i hw
      rw [if_neg hw] at h
      exact ⟨fun _ _ => trivial, h⟩
theorem wpAny_in (hdef : ∀ (o : Oper) (c : Call), o ∈ ops → o.op ≠ .defer c) (hno : ¬ LetsOut Q) : ∀ (fuel : Nat) (listed : Array Bool) (a : Act) (w : World), wpAny P md ops Q fuel listed a w → wpAnyIn (Fence.wide.inRound l) n P md ops Q fuel listed a w
  | 0, _, _, _, h => h
  | fuel + 1, _listed, _a, _w, h => ⟨h.1, fun i hi => wpOp_in hdef hno (wpOp_mono (fun a' w' h' => wpAny_in hdef hno fuel _ a' w' h') (h.2 i hi))⟩
def noDefer (ops : Array Oper) : Bool := ops.all fun o => match o.op with | .defer _ => false | _ => true
theorem noDefer_spec (h : noDefer ops = true) (o : Oper) (c : Call) (ho : o ∈ ops) : o.op ≠ .defer c := by
  intro heq
  have := Array.all_eq_true_iff_forall_mem.1 h o ho
  simp [heq] at this
/-- A region that draws, within a round, by whatever is proved of it outside. -/
theorem wp_region_round {id : Nat} {a : Act} {w : World} (S : World → Prop) (need : Nat → Bool) (hm : P.follows .mixedOrders = true) (hdef : noDefer ops = true) (hno : ¬ LetsOut Q) (hS : S w.drew)
    (h : S w.drew → wpAnyN P .any ops Q S need ops.size (Array.replicate ops.size false) a w.drew) : (Code.region id ops true).wpIn (Fence.wide.inRound l) n P Q a w :=
  wpIn_region_any hm (wpAny_in (noDefer_spec hdef) hno _ _ _ _ (wpAny_of_need _ _ _ _ (h hS)))
end

/-! ### log.cut -/
/-- Part number k of a slice. -/
def partV (v : Value) (k : Nat) : Value := match v with
  | .slice a len cap => if k = 0 then .slice a (min len 480) cap else match a with
    | some x => .slice (some ⟨x.block, x.off + k * 480, none⟩) (min len ((k + 1) * 480) - k * 480) (cap - k * 480)
    | none => undef
  | _ => undef
theorem part_bytes {w : World} {o : Own} {v : Value} {l : List UInt8} (h : Bytes w o v l) (k : Nat) (hk : k < LogM.many l) : Bytes w o (partV v k) (LogM.part l k) := by
  have hmany : k = 0 ∨ 480 * k < l.length := by unfold LogM.many at hk; omega
  unfold LogM.part
  rcases h.cases with ⟨⟨a, c, rfl⟩, rfl⟩ | ⟨b, off, cap, rfl, hcl, hcm, ho, hb, hr⟩
  · have : k = 0 := by simp at hmany; omega
    subst this
    exact .inl ⟨⟨_, _, by simp [partV]; exact ⟨rfl, rfl⟩⟩, by simp, by simp⟩
  · by_cases h0 : k = 0
    · subst h0
      have := h.part 0 (min l.length 480) (by omega) (by omega)
      simp only [Nat.add_zero, Nat.sub_zero, List.drop_zero] at this
      simp only [partV, if_true, Nat.mul_zero, List.drop_zero]
      have e : l.take 480 = l.take (min l.length 480) := by
        by_cases hl : l.length ≤ 480
        · rw [Nat.min_eq_left hl, List.take_length, List.take_of_length_le hl]
        · rw [Nat.min_eq_right (by omega)]
      rw [e]; exact this
    · have := h.part (480 * k) (min l.length (480 * (k + 1))) (by omega) (by omega)
      simp only [partV, if_neg h0]
      rw [Nat.mul_comm k 480, Nat.mul_comm (k + 1) 480]
      have e : (l.drop (480 * k)).take 480 = (l.drop (480 * k)).take (min l.length (480 * (k + 1)) - 480 * k) := by
        by_cases hl : l.length ≤ 480 * (k + 1)
        · rw [Nat.min_eq_left hl, List.take_of_length_le (by simp; omega), List.take_of_length_le (by simp)]
        · rw [Nat.min_eq_right (by omega)]
          congr 1; omega
      rw [e]; exact this
set_option maxRecDepth 100000 in
theorem cut_any (w : World) (a : Option Addr) (n c : Nat) : Calls Try.prog 86 #[.slice a n c] w fun e w' => e = .returned (.func (.func 116) #[] #[.pointer (some ⟨w.heap.size, 0, none⟩)]) ∧ w' = w.alloc (.cells #[.slice a n c] 28) := by
  go_enter Try.func86, Try.ntmps86
  go_wp2
  go_ret
  exact ⟨rfl, rfl⟩

set_option maxRecDepth 100000 in
set_option maxHeartbeats 2000000 in
theorem cut1_in (n : Nat) (hn : 1 ≤ n) (l bx : Nat) (a : Option Addr) (len cap : Nat) (hsome : 480 < len → ∃ b off, a = some ⟨b, off, none⟩) (hcap : len ≤ cap) (hlen : cap ≤ 9223372036854775807) (hlen2 : len ≤ 1000000000) (many : Nat) (hmany : many = max 1 ((len + 479) / 480)) (J Jx : List (Fin many) → World → Prop)
    (hY : ∀ (pre : List (Fin many)) (x : Fin many) (W : World), J pre W → pre.length < many → YieldAt Fence.wide (n - 1) Try.prog l #[.int .i64 (x.val : Int), partV (.slice a len cap) x.val] W fun e W' =>
      (e = .returned (.bool true) ∧ J (pre ++ [x]) W' ∧ W'.heap[bx]? = W.heap[bx]?) ∨ (e = .returned (.bool false) ∧ Jx (pre ++ [x]) W'))
    (W : World) (hBs : W.heap[bx]? = some (.cells #[.slice a len cap] 28 (0, 0))) (h0 : J [] W) :
    CallsIn Fence.wide n Try.prog 116 #[.func (.yield l) #[] #[], .pointer (some ⟨bx, 0, none⟩)] W fun e W' => (∃ v, e = .returned v) ∧
      ((∃ ys, ys.map (·.val) = List.range many ∧ J ys W') ∨ (∃ pre, (∃ k, k ≤ many ∧ 1 ≤ k ∧ pre.map (·.val) = List.range k) ∧ Jx pre W')) := by
  refine callsIn_of_wp Try.func116 rfl trivial ?_ rfl
  simp only [Try.ntmps116, List.size_toArray, List.length_cons, List.length_nil, Nat.reduceAdd, Nat.reduceSub, Array.replicate_succ, Array.replicate_zero, List.push_toArray, List.append_toArray, List.nil_append, List.cons_append]
  have hmanyH := hidden hmany
  clear hmany
  gi_wp2
  gi_loopw [3] (fun i wr => ∃ k : Nat, k ≤ many ∧ i = .int .i64 k ∧ (∃ pre : List (Fin many), pre.map (·.val) = List.range k ∧ J pre wr) ∧ wr.heap[bx]? = some (.cells #[.slice a len cap] 28 (0, 0)))
    (fun i _ => many - (intOf i).toNat)
  case atStart => exact ⟨0, Nat.zero_le _, rfl, ⟨[], rfl, h0⟩, hBs⟩
  case round =>
    clear hBs h0
    obtain ⟨k, hk, rfl, ⟨pre, hpre, hJs⟩, hbx⟩ := hrel
    have hplen : pre.length = k := by have := congrArg List.length hpre; simpa using this
    have hpreH := hidden hpre
    have hplH := hidden hplen
    clear hpre hplen
    have cb : wr.cell? ⟨bx, 0, none⟩ = some (.slice a len cap) := cell_of_one hbx
    by_cases hk0 : k = 0
    · subst hk0
      have hlt : 0 < many := by have := hmanyH.out; omega
      obtain ⟨fn, tmps, assign, body, hy, hR⟩ := hY _ ⟨0, hlt⟩ wr hJs (by rw [hplH.out]; exact hlt)
      have hpv : partV (.slice a len cap) 0 = .slice a (min len 480) cap := by simp [partV]
      dsimp only at hy
      have e0 : ((0 : Nat) : Int) = 0 := rfl
      rw [hpv, e0] at hy
      clear e0 hpv hY
      by_cases h480 : len ≤ 480
      · rw [Nat.min_eq_left h480] at hy
        have i480 : (len : Int) ≤ 480 := by omega
        gi_wp2
        refine hR.mono ?_
        rintro e W3 (⟨rfl, hJ3, hk3⟩ | ⟨rfl, hJx3⟩)
        · gi_wp2
          go_roundw
          case rel => exact ⟨0 + 1, hlt, by go_num, ⟨_, by rw [List.range_succ, List.map_append, hpreH.out]; rfl, hJ3⟩, hk3.trans hbx⟩
          case measure => simp [intOf]; omega
        · gi_wp2
          refine bodyPost_ret (results_none rfl _ _ _) rfl ?_
          exact ⟨⟨_, rfl⟩, .inr ⟨_, ⟨0 + 1, hlt, by omega, by rw [List.range_succ, List.map_append, hpreH.out]; rfl⟩, hJx3⟩⟩
      · rw [Nat.min_eq_right (by omega)] at hy
        have i480 : ¬ (len : Int) ≤ 480 := by omega
        have icap : (480 : Int) ≤ (cap : Int) := by omega
        gi_wp2
        refine hR.mono ?_
        rintro e W3 (⟨rfl, hJ3, hk3⟩ | ⟨rfl, hJx3⟩)
        · gi_wp2
          go_roundw
          case rel => exact ⟨0 + 1, hlt, by go_num, ⟨_, by rw [List.range_succ, List.map_append, hpreH.out]; rfl, hJ3⟩, hk3.trans hbx⟩
          case measure => simp [intOf]; omega
        · gi_wp2
          refine bodyPost_ret (results_none rfl _ _ _) rfl ?_
          exact ⟨⟨_, rfl⟩, .inr ⟨_, ⟨0 + 1, hlt, by omega, by rw [List.range_succ, List.map_append, hpreH.out]; rfl⟩, hJx3⟩⟩
    · have hki : ((k : Int) == 0) = false := by rw [beq_eq_false_iff_ne]; omega
      by_cases hlt : k < many
      · have hkl : 480 * k < len := by have := hmanyH.out; omega
        have ikl : (k : Int) * 480 < (len : Int) := by omega
        obtain ⟨b, off, rfl⟩ := hsome (by omega)
        obtain ⟨fn, tmps, assign, body, hy, hR⟩ := hY _ ⟨k, hlt⟩ wr hJs (by rw [hplH.out]; exact hlt)
        dsimp only at hy
        have hpv : partV (.slice (some ⟨b, off, none⟩) len cap) k = .slice (some ⟨b, off + k * 480, none⟩) (min len ((k + 1) * 480) - k * 480) (cap - k * 480) := by simp [partV, hk0]
        rw [hpv] at hy
        clear hpv hY hk0 hsome
        have iw : (k : Int) ≤ 3000000 := by omega
        by_cases h480 : len ≤ (k + 1) * 480
        · rw [Nat.min_eq_left h480] at hy
          have i480 : (len : Int) ≤ ((k : Int) + 1) * 480 := by omega
          gi_wp2
          refine hR.mono ?_
          rintro e W3 (⟨rfl, hJ3, hk3⟩ | ⟨rfl, hJx3⟩)
          · gi_wp2
            go_roundw
            case rel => exact ⟨k + 1, hlt, by go_num, ⟨_, by rw [List.range_succ, List.map_append, hpreH.out]; rfl, hJ3⟩, hk3.trans hbx⟩
            case measure => simp [intOf]; omega
          · gi_wp2
            refine bodyPost_ret (results_none rfl _ _ _) rfl ?_
            exact ⟨⟨_, rfl⟩, .inr ⟨_, ⟨k + 1, hlt, by omega, by rw [List.range_succ, List.map_append, hpreH.out]; rfl⟩, hJx3⟩⟩
        · rw [Nat.min_eq_right (by omega)] at hy
          have i480 : ¬ (len : Int) ≤ ((k : Int) + 1) * 480 := by omega
          have icap : ((k : Int) + 1) * 480 ≤ (cap : Int) := by omega
          gi_wp2
          refine hR.mono ?_
          rintro e W3 (⟨rfl, hJ3, hk3⟩ | ⟨rfl, hJx3⟩)
          · gi_wp2
            go_roundw
            case rel => exact ⟨k + 1, hlt, by go_num, ⟨_, by rw [List.range_succ, List.map_append, hpreH.out]; rfl, hJ3⟩, hk3.trans hbx⟩
            case measure => simp [intOf]; omega
          · gi_wp2
            refine bodyPost_ret (results_none rfl _ _ _) rfl ?_
            exact ⟨⟨_, rfl⟩, .inr ⟨_, ⟨k + 1, hlt, by omega, by rw [List.range_succ, List.map_append, hpreH.out]; rfl⟩, hJx3⟩⟩
      · have hkl : ¬ 480 * k < len := by have := hmanyH.out; omega
        have ikl : ¬ (k : Int) * 480 < (len : Int) := by omega
        obtain rfl : many = k := by omega
        have iw : (many : Int) ≤ 3000000 := by have := hmanyH.out; omega
        gi_wp2
        go_end0
        exact ⟨⟨_, rfl⟩, .inl ⟨_, hpreH.out, hJs⟩⟩

theorem cut_stops (n : Nat) (hn : 1 ≤ n) (bx : Nat) (a : Option Addr) (len cap : Nat) (hsome : 480 < len → ∃ b off, a = some ⟨b, off, none⟩) (hcap : len ≤ cap) (hlen : cap ≤ 9223372036854775807) (hlen2 : len ≤ 1000000000) (many : Nat) (hmany : many = max 1 ((len + 479) / 480))
    (w : World) (hbx : w.heap[bx]? = some (.cells #[.slice a len cap] 28 (0, 0))) :
    SeqStopsK Fence.wide n Try.prog 116 #[.pointer (some ⟨bx, 0, none⟩)] (fun x : Fin many => #[Value.int .i64 (x.val : Int), partV (.slice a len cap) x.val]) (fun W W' => W'.heap[bx]? = W.heap[bx]?) (fun ys => ys.map (·.val) = List.range many) (fun pre => ∃ k, k ≤ many ∧ 1 ≤ k ∧ pre.map (·.val) = List.range k) many w := fun l J Jx W hW _ _ hY h0 => by
  have hbl := lt_of_block hbx
  exact cut1_in n hn l bx a len cap hsome hcap hlen hlen2 many hmany J Jx hY W ((hW.block bx hbl).trans hbx) h0
/-! ### The leaves that are put -/
def putL (l : LogM) (of' : Nat) (b : List UInt8) : List Nat → DiskM → DiskM × Int
  | [], d => (d, 0)
  | x :: r, d =>
    if (d.write ((l.first + l.end' + x : Nat) : Int) (LeafM.page ⟨l.stamp, x, of', LogM.part b x⟩)).2 ≠ 0 then d.write ((l.first + l.end' + x : Nat) : Int) (LeafM.page ⟨l.stamp, x, of', LogM.part b x⟩)
    else putL l of' b r (d.write ((l.first + l.end' + x : Nat) : Int) (LeafM.page ⟨l.stamp, x, of', LogM.part b x⟩)).1
theorem put_eq (l : LogM) (of' : Nat) (b : List UInt8) : ∀ (k i : Nat) (d : DiskM), LogM.put l of' b k i d = putL l of' b (List.range' i k) d
  | 0, _, _ => rfl
  | k + 1, i, d => by
    rw [List.range'_succ]
    unfold LogM.put putL
    dsimp only
    rw [put_eq l of' b k (i + 1)]
theorem putL_snoc (l : LogM) (of' : Nat) (b : List UInt8) (x : Nat) : ∀ (xs : List Nat) (d : DiskM), putL l of' b (xs ++ [x]) d =
    if (putL l of' b xs d).2 ≠ 0 then putL l of' b xs d else (putL l of' b xs d).1.write ((l.first + l.end' + x : Nat) : Int) (LeafM.page ⟨l.stamp, x, of', LogM.part b x⟩)
  | [], d => by
    have h0 : ∀ d : DiskM, putL l of' b [] d = (d, 0) := fun _ => rfl
    rw [List.nil_append, h0]
    unfold putL
    simp only [h0, ne_eq, not_true_eq_false, if_false]
    split
    · rfl
    · rename_i h
      simp only [Decidable.not_not] at h
      rw [← h]
  | y :: xs, d => by
    rw [List.cons_append]
    unfold putL
    by_cases h : (d.write ((l.first + l.end' + y : Nat) : Int) (LeafM.page ⟨l.stamp, y, of', LogM.part b y⟩)).2 ≠ 0
    · rw [if_pos h, if_pos h, if_pos h]
    · rw [if_neg h, if_neg h, putL_snoc l of' b x xs]
/-- Behind an error nothing more is put. -/
theorem putL_err (l : LogM) (of' : Nat) (b : List UInt8) : ∀ (xs ys : List Nat) (d : DiskM), (putL l of' b xs d).2 ≠ 0 → putL l of' b (xs ++ ys) d = putL l of' b xs d
  | [], _, _, h => by simp [putL] at h
  | x :: xs, ys, d, h => by
    rw [List.cons_append]
    unfold putL at h ⊢
    by_cases hx : (d.write ((l.first + l.end' + x : Nat) : Int) (LeafM.page ⟨l.stamp, x, of', LogM.part b x⟩)).2 ≠ 0
    · rw [if_pos hx, if_pos hx]
    · rw [if_neg hx] at h ⊢
      rw [if_neg hx]
      exact putL_err l of' b xs ys _ h
theorem putL_row (l : LogM) (of' : Nat) (b : List UInt8) : ∀ (xs : List Nat) (d : DiskM), (putL l of' b xs d).1.row.length ≤ d.row.length + xs.length
  | [], _ => Nat.le_refl _
  | x :: r, d => by
    unfold putL
    have h := DiskM.write_row d ((l.first + l.end' + x : Nat) : Int) (LeafM.page ⟨l.stamp, x, of', LogM.part b x⟩)
    split
    · simp only [List.length_cons]; omega
    · have := putL_row l of' b r (d.write ((l.first + l.end' + x : Nat) : Int) (LeafM.page ⟨l.stamp, x, of', LogM.part b x⟩)).1
      simp only [List.length_cons]; omega

/-! ### What lies in memory abides a turn of a block that is no cells -/
/-- The ghost map, new blocks plain. -/
def ext (W : World) (o : Own) : Own := fun k => if k < W.heap.size then o k else (0, 0)
def Others (W : World) (row : Option Nat) : Prop := ∀ r, row = some r → ∃ o : Obj, W.heap[r]? = some o ∧ o.isCells = false
section
variable {W W' : World} {row : Option Nat} {o : Own}
theorem Others.same (h : Others W row) (hg : W.grownBy W' row) {k : Nat} {cs : Array Value} {t : TypeId} {fr : Nat × Nat} (hk : W.heap[k]? = some (.cells cs t fr)) : W'.heap[k]? = some (.cells cs t fr) := by
  rw [hg.block k (lt_of_block hk)]
  · exact hk
  · intro e
    obtain ⟨ob, h1, h2⟩ := h k e.symm
    rw [hk] at h1
    simp only [Option.some.injEq] at h1
    subst h1; cases h2
theorem Others.cell (h : Others W row) (hg : W.grownBy W' row) {a : Addr} {v : Value} (hc : W.cell? a = some v) : W'.cell? a = some v := by
  cases hk : W.heap[a.block]? with
  | none => simp [World.cell?, hk] at hc
  | some ob =>
    cases ob with
    | cells cs t fr => rw [World.cell?_of_block (w := W) (a := a) (by rw [h.same hg hk, hk])]; exact hc
    | _ => simp [World.cell?, hk] at hc
theorem Bytes.kept {v : Value} {l : List UInt8} (hb : Bytes W o v l) (h : Others W row) (hg : W.grownBy W' row) : Bytes W' (ext W o) v l := by
  rcases hb with hb | ⟨b, off, cap, hv, h1, h2, h3, h4, h5⟩
  · exact .inl hb
  · exact .inr ⟨b, off, cap, hv, h1, h2, by unfold ext; rw [if_pos h4]; exact h3, Nat.lt_of_lt_of_le h4 hg.size, fun j v hj => h.cell hg (h5 j v hj)⟩
theorem ownsRow_kept {e : TypeId} {size n : Nat} {v : Value} {xs : List Value} (hr : W.ownsRow 0 e size v n xs) (h : Others W row) (hg : W.grownBy W' row) : W'.ownsRow 0 e size v n xs := by
  refine ⟨hr.1, ?_⟩
  rcases hr.2 with hn | ⟨g, cap, cur, rfl, hb, hgg, rest⟩
  · exact .inl hn
  · exact .inr ⟨g, cap, cur, rfl, hb, h.same hg hgg, rest⟩
theorem LogAt.kept {L p pd : Nat} {m : LogM} (hl : LogAt W o L p pd m) (h : Others W row) (hg : W.grownBy W' row) : LogAt W' (ext W o) L p pd m := by
  obtain ⟨rv, vs, hp, hr, hv, op, orr, hwf⟩ := hl
  refine ⟨rv, vs, h.same hg hp, ownsRow_kept hr h hg, ⟨⟨hv.1.1, fun i v l h1 h2 => (hv.1.2 i v l h1 h2).kept h hg⟩, fun v hx b off n c e hn => ?_⟩, ?_, fun k hk => ?_, hwf⟩
  · obtain ⟨h1, h2⟩ := hv.2 v hx b off n c e hn
    exact ⟨Nat.lt_of_lt_of_le h1 hg.size, by unfold ext; rw [if_pos h1]; exact h2⟩
  · unfold ext; rw [if_pos (lt_of_block hp)]; exact op
  · unfold ext; rw [if_pos (hr.lt k hk).2]; exact orr k hk
theorem DiskAt.kept {D p : Nat} {d : DiskM} (hd : DiskAt W o D p d) (h : Others W row) (hg : W.grownBy W' row) : DiskAt W' (ext W o) D p d := by
  obtain ⟨bl, rv, hp, hl, hr, op, ol, orr, hwf⟩ := hd
  refine ⟨bl, rv, h.same hg hp, h.same hg hl, ownsRow_kept hr h hg, ?_, ?_, fun k hk => ?_, hwf⟩
  · unfold ext; rw [if_pos (lt_of_block hp)]; exact op
  · unfold ext; rw [if_pos (lt_of_block hl)]; exact ol
  · unfold ext; rw [if_pos (hr.lt k hk).2]; exact orr k hk
theorem Step.kept {T : Nat → Prop} {w0 : World} {o0 : Own} (hs : Step T w0 o0 W o) (hg : W.grownBy W' row) (hr : ∀ r, row = some r → w0.heap.size ≤ r) : Step T w0 o0 W' (ext W o) := by
  refine ⟨hg.os.trans hs.os, hg.tape.trans hs.tape, hg.output.trans hs.output, Nat.le_trans hs.size hg.size, fun k hk => ?_, fun k hk ht => ?_⟩
  · unfold ext; rw [if_pos (Nat.lt_of_lt_of_le hk hs.size)]; exact hs.own k hk
  · rw [hg.block k (Nat.lt_of_lt_of_le hk hs.size) (fun e => by have := hr k e.symm; omega)]; exact hs.block k hk ht
end
/-- Blocks from B on that are no cells are nobody's. -/
def Plain (B : Nat) (T : Nat → Prop) (W : World) (o : Own) : Prop := ∀ k ob, B ≤ k → W.heap[k]? = some ob → ob.isCells = false → ¬ T (o k).1
theorem Plain.keeps {B : Nat} {T : Nat → Prop} {W W' : World} {o o' : Own} (h : Plain B T W o) (hs : Step T W o W' o') : KeepsFrom B W W' :=
  ⟨hs.size, fun k ob hk hb hc => by rw [hs.block k (Array.getElem?_eq_some_iff.1 hb).1 (h k ob hk hb hc)]; exact hb⟩

/-- The ghost map, where blocks from B on that are no cells are plain. -/
def plainify (B : Nat) (W : World) (o : Own) : Own := fun k => if B ≤ k then (match W.heap[k]? with | some (.cells _ _ _) => o k | _ => (0, 0)) else o k
section
variable {W : World} {o : Own} {B : Nat}
theorem plainify_cells {k : Nat} {cs : Array Value} {t : TypeId} {fr : Nat × Nat} (h : W.heap[k]? = some (.cells cs t fr)) : plainify B W o k = o k := by
  unfold plainify; rw [h]; simp
theorem plainify_zero {k : Nat} (h : (o k).1 = 0) : (plainify B W o k).1 = 0 := by
  unfold plainify
  split
  · split
    · exact h
    · rfl
  · exact h
theorem plainify_plain (T : Nat → Prop) (h0 : ¬ T 0) : Plain B T W (plainify B W o) := by
  intro k ob hk hb hc
  unfold plainify
  rw [if_pos hk, hb]
  cases ob <;> first | exact h0 | (simp [Obj.isCells] at hc)
theorem Bytes.plainify {v : Value} {l : List UInt8} (hb : Bytes W o v l) : Bytes W (plainify B W o) v l := by
  rcases hb with hb | ⟨b, off, cap, hv, h1, h2, h3, h4, h5⟩
  · exact .inl hb
  · exact .inr ⟨b, off, cap, hv, h1, h2, plainify_zero h3, h4, h5⟩
theorem ownsRow_tag {e : TypeId} {size n : Nat} {v : Value} {xs : List Value} (hr : W.ownsRow 0 e size v n xs) {k : Nat} (hk : v.ownBlock = some k) : plainify B W o k = o k := by
  rcases hr.2 with ⟨rfl, _⟩ | ⟨g, cap, cur, rfl, hb, hgg, rest⟩
  · simp [Value.ownBlock] at hk
  · simp only [Value.ownBlock, Option.some.injEq] at hk
    subst hk; exact plainify_cells hgg
theorem LogAt.plainify {L p pd : Nat} {m : LogM} (hl : LogAt W o L p pd m) : LogAt W (plainify B W o) L p pd m := by
  obtain ⟨rv, vs, hp, hr, hv, op, orr, hwf⟩ := hl
  refine ⟨rv, vs, hp, hr, ⟨⟨hv.1.1, fun i v l h1 h2 => (hv.1.2 i v l h1 h2).plainify⟩, fun v hx b off n c e hn => ?_⟩, by rw [plainify_cells hp]; exact op, fun k hk => by rw [ownsRow_tag hr hk]; exact orr k hk, hwf⟩
  obtain ⟨h1, h2⟩ := hv.2 v hx b off n c e hn
  obtain ⟨i, hi⟩ := List.mem_iff_getElem?.1 hx
  have hil := (List.getElem?_eq_some_iff.1 hi).1
  rcases hv.1.2 i v _ hi (List.getElem?_eq_getElem (by rw [← hv.1.1]; exact hil)) with ⟨⟨_, _, e2⟩, _⟩ | ⟨b', off', cap', e2, _, _, _, _, h5⟩
  · rw [e] at e2; simp only [Value.slice.injEq] at e2; omega
  · rw [e] at e2
    simp only [Value.slice.injEq, Option.some.injEq, Addr.mk.injEq] at e2
    obtain ⟨⟨rfl, rfl, -⟩, hn2, rfl⟩ := e2
    have h50 := h5 0 _ (List.getElem?_eq_getElem (by rw [length_bvs]; omega))
    refine ⟨h1, ?_⟩
    cases hb : W.heap[b]? with
    | none => simp [World.cell?, hb] at h50
    | some ob =>
      cases ob with
      | cells cs t fr => rw [plainify_cells hb]; exact h2
      | _ => simp [World.cell?, hb] at h50
theorem DiskAt.plainify {D p : Nat} {d : DiskM} (hd : DiskAt W o D p d) : DiskAt W (plainify B W o) D p d := by
  obtain ⟨bl, rv, hp, hl, hr, op, ol, orr, hwf⟩ := hd
  exact ⟨bl, rv, hp, hl, hr, by rw [plainify_cells hp]; exact op, by rw [plainify_cells hl]; exact ol, fun k hk => by rw [ownsRow_tag hr hk]; exact orr k hk, hwf⟩
theorem Step.plainify {T : Nat → Prop} {w0 : World} {o0 : Own} (hs : Step T w0 o0 W o) (hB : w0.heap.size ≤ B) : Step T w0 o0 W (plainify B W o) :=
  ⟨hs.os, hs.tape, hs.output, hs.size, fun k hk => by unfold YtfgggkheadfiaaaR.plainify; rw [if_neg (by omega)]; exact hs.own k hk, hs.block⟩
end
theorem Box.kept {W W' : World} {row : Option Nat} {o : Own} {b : Nat} {t : TypeId} {v : Value} (hb : Box W o b t v) (h : Others W row) (hg : W.grownBy W' row) : Box W' (ext W o) b t v :=
  ⟨h.same hg hb.1, by unfold ext; rw [if_pos (lt_of_block hb.1)]; exact hb.2⟩
theorem Box.plainify {W : World} {o : Own} {B b : Nat} {t : TypeId} {v : Value} (hb : Box W o b t v) : Box W (plainify B W o) b t v := ⟨hb.1, plainify_zero hb.2⟩
end Go.Proofs.YtfgggkheadfiaaaR
