/- The statement StoreKnown: the walk. -/
import Derived.Test.YtfgggkheadfiaaaRSq11
import Derived.Test.YtfgggkheadfiaaaRSq12
namespace Go.Proofs.YtfgggkheadfiaaaR
open Go Go.RowKit
attribute [local go_sem ↓] Go.wp_at_zero Go.wp_at_succ
section
variable {K H : Nat} {s : StoreM}
theorem promise_no (hG : SG K H s) {e : BitVec 64} (h : s.kept.promiseOk e = false) : s.promise e = (s, 1) := by
  unfold StoreM.promise; rw [hG.live, hG.dd, h]; rfl
theorem adopt_no (hG : SG K H s) {e : BitVec 64} {ls : List LineM} (h : s.kept.adoptOk e ls = false) : s.adopt e ls = (s, 1) := by
  unfold StoreM.adopt; rw [hG.live, hG.dd, h]; rfl
theorem append_no (hG : SG K H s) {ls : List LineM} (h : s.kept.appendOk ls = false) : s.append ls = (s, 1) := by
  unfold StoreM.append; rw [hG.live, hG.dd, h]; rfl
end
def ln1 : LineM := ⟨1#64, [1]⟩
def top0 : BitVec 64 := 281474976710656#64
theorem known_plain : ∃ s1 s2 s3, (newS 40).promise 3#64 = (s1, 0) ∧ SG 3 20 s1 ∧ s1.kept = ⟨3#64, 0, []⟩ ∧ s1.adopt 3#64 (List.replicate 256 ln1) = (s2, 0) ∧ SG 6 20 s2 ∧ s2.kept = ⟨3#64, 3#64, List.replicate 256 ln1⟩ ∧
    s2.promise top0 = (s3, 0) ∧ SG 9 20 s3 ∧ s3.kept = ⟨top0, 3#64, List.replicate 256 ln1⟩ := by
  have g0 := newS_sg (n := 40) (by omega) (by omega)
  obtain ⟨s1, e1, g1, k1, p1, l1⟩ := act_ok (n := 40) g0 (by show (-1 : Int) < 0; omega) (by omega) (s := newS 40) KOk.zero ⟨0, 3#64, []⟩ (by decide +kernel) rfl (by decide +kernel)
  have q1 : s1.kept = ⟨3#64, 0, []⟩ := by rw [k1]; kernel_rfl
  have o1 : KOk s1.kept := by rw [q1]; exact ⟨by simp, by simp⟩
  obtain ⟨s2, e2, g2, k2, p2, l2⟩ := act_ok (n := 40) g1 l1 (by omega) o1 ⟨1, 3#64, List.replicate 256 ln1⟩ (by rw [q1]; decide +kernel) rfl (by rw [q1]; decide +kernel)
  have q2 : s2.kept = ⟨3#64, 3#64, List.replicate 256 ln1⟩ := by rw [k2, q1]; kernel_rfl
  have o2 : KOk s2.kept := by rw [k2]; exact o1.next _
  obtain ⟨s3, e3, g3, k3, p3, l3⟩ := act_ok (n := 40) g2 l2 (by omega) o2 ⟨0, top0, []⟩ (by rw [q2]; decide +kernel) rfl (by rw [q2]; decide +kernel)
  have q3 : s3.kept = ⟨top0, 3#64, List.replicate 256 ln1⟩ := by rw [k3, q2]; kernel_rfl
  rw [act_promise] at e1 e3
  rw [act_adopt] at e2
  exact ⟨s1, s2, s3, e1, g1, q1, e2, g2, q2, e3, g3, q3⟩
def zeros4096 : List UInt8 := List.replicate 4096 0
theorem known_big : (newS 8).adopt 1#64 [⟨1#64, zeros4096⟩] = (newS 8, 4) := by
  have hok : (newS 8).kept.adoptOk 1#64 [⟨1#64, zeros4096⟩] = true := by decide +kernel
  have hg := newS_sg (n := 8) (by omega) (by omega)
  unfold StoreM.adopt
  rw [hg.live, hg.dd, hok]
  simp only [Bool.or_self, Bool.false_eq_true, if_false, if_true]
  unfold StoreM.write
  rw [if_neg (by intro h; have h1 := h.1; simp [newS] at h1), if_pos]
  rw [length_allE]
  have h1 : bytesL [⟨1#64, zeros4096⟩] = 4096 := by decide +kernel
  rw [h1]
  show 480 * (8 / 2 - 1) < _
  simp
theorem known_big2 : ∃ t1, (newS 8).promise 7#64 = (t1, 0) ∧ SG 3 4 t1 := by
  obtain ⟨s1, e1, g1, k1, p1, l1⟩ := act_ok (n := 8) (newS_sg (n := 8) (by omega) (by omega)) (by show (-1 : Int) < 0; omega) (by omega) (s := newS 8) KOk.zero ⟨0, 7#64, []⟩ (by decide +kernel) rfl (by decide +kernel)
  rw [act_promise] at e1
  exact ⟨s1, e1, g1⟩
theorem set_two {α : Type} {l : List α} {n : Nat} (a b : α) (h : n + 1 < l.length) : l.take n ++ [a, b] ++ l.drop (n + 2) = (l.set n a).set (n + 1) b := by
  apply List.ext_getElem?
  intro i
  rw [List.append_assoc]
  by_cases h1 : i < n
  · rw [List.getElem?_append_left (by rw [List.length_take]; omega), List.getElem?_take, if_pos h1, List.getElem?_set_ne (by omega), List.getElem?_set_ne (by omega)]
  · rw [List.getElem?_append_right (by rw [List.length_take]; omega), List.length_take, Nat.min_eq_left (by omega)]
    by_cases h2 : i = n
    · subst h2
      rw [Nat.sub_self, List.getElem?_set_ne (by omega), List.getElem?_set_self (by omega)]; rfl
    · by_cases h3 : i = n + 1
      · subst h3
        rw [show n + 1 - n = 1 from by omega, List.getElem?_set_self (by rw [List.length_set]; omega)]; rfl
      · rw [List.getElem?_append_right (by simp; omega), List.getElem?_drop, List.getElem?_set_ne (by omega), List.getElem?_set_ne (by omega)]
        congr 1; simp; omega
/-- The first k of the lines are written. -/
def Many (w : World) (o : Own) (mb E k : Nat) (cur : List Value) : Prop :=
  w.heap[mb]? = some (.cells cur.toArray 113 (0, 0)) ∧ o mb = (E, 0) ∧ cur.length = 514 ∧ ∀ q, q < k → cur[2 * q]? = some (.int .u64 1) ∧ ∃ bv, cur[2 * q + 1]? = some bv ∧ Bytes w o bv [1]
theorem Many.lines {w : World} {o : Own} {mb E k : Nat} {cur : List Value} (h : Many w o mb E k cur) (hk : k ≤ 257) (n : Nat) (hn : n ≤ k) : Lines w (untag E o) 0 (.slice (some ⟨mb, 0, none⟩) n 257) (List.replicate n ln1) := by
  obtain ⟨h1, h2, h3, h4⟩ := h
  have hr := range_of_block h1 0 (2 * n)
  rw [List.drop_zero] at hr
  refine ⟨cur.take (2 * n), .inr ⟨mb, 0, 257, by rw [List.length_replicate], by rw [List.length_replicate]; omega, by simp [maxLen], by unfold untag; rw [h2]; simp, lt_of_block h1, hr⟩,
    ⟨by rw [List.length_take, List.length_replicate]; omega, fun i x hx => ?_⟩, Fresh.zero _, fun u _ => Fresh.zero u⟩
  rw [List.getElem?_replicate] at hx
  split at hx
  · rename_i hi
    cases hx
    obtain ⟨q1, bv, q2, q3⟩ := h4 i (by omega)
    exact ⟨by rw [List.getElem?_take, if_pos (by omega)]; exact q1, bv, by rw [List.getElem?_take, if_pos (by omega)]; exact q2, q3.retag2 fun b _ hb => untag_zero hb⟩
  · cases hx
theorem zeros514 : (List.replicate 257 [Value.int .u64 0, .slice none 0 0]).flatten.length = 514 := by decide +kernel
theorem sliceMany (w : World) (mb : Nat) : (Instr.sliceAt 93 (.slice (some ⟨mb, 0, none⟩) 257 257) none (some (.int .i64 256)) none).run Try.prog w = .ok (.slice (some ⟨mb, 0, none⟩) 256 257) w := by
  kernel_rfl
set_option maxRecDepth 100000 in
set_option maxHeartbeats 12800000 in
theorem storeKnown_walk (w : World) (o : Own) : Calls Try.prog 17 #[] w (Ret Nobody w o fun v _ _ => v = .bool true) := by
  obtain ⟨M, -, hM⟩ := tag_bound o 0 w.heap.size
  have nn : ∀ k, ¬ Nobody k := fun _ h => h
  have hT0 : ¬ Above M 0 := fun h => by change M < 0 at h; omega
  obtain ⟨D7, hD7⟩ : ∃ D7, D7 = M + 1 := ⟨_, rfl⟩
  obtain ⟨D, hD⟩ : ∃ D, D = M + 2 := ⟨_, rfl⟩
  obtain ⟨D2, hD2⟩ : ∃ D2, D2 = M + 6 := ⟨_, rfl⟩
  have hD0 : D ≠ 0 := by omega
  have hD20 : D2 ≠ 0 := by omega
  have ht := tags_new (Mx := D) (D := D) (Nat.le_refl _) hD0
  have ht2 := tags_new (Mx := D2) (D := D2) (Nat.le_refl _) hD20
  have h4 := in4_above (M := M) (Mx := D) (D := D) (by omega) (by omega)
  have h42 := in4_above (M := M) (Mx := D2) (D := D2) (by omega) (by omega)
  have hAD : ∀ k, Above D k → Above M k := fun k hk => by change D < k at hk; show M < k; omega
  have hAD2 : ∀ k, Above D2 k → Above M k := fun k hk => by change D2 < k at hk; show M < k; omega
  have hDM : ∀ k, Only D k → Above M k := fun k hk => by change k = D at hk; show M < k; omega
  have hx12 : ∀ t, Above D2 t → t ≠ 0 ∧ ¬ In4 (D + 1) (D + 2) (D + 3) D t := fun t h => by
    change D2 < t at h
    exact ⟨by omega, fun h => by rcases h with h | h | h | h <;> omega⟩
  have hx42 : ∀ t, In4 (D2 + 1) (D2 + 2) (D2 + 3) D2 t → t ≠ 0 ∧ ¬ In4 (D + 1) (D + 2) (D + 3) D t := fun t h => by
    refine ⟨by rcases h with h | h | h | h <;> omega, fun h' => ?_⟩
    rcases h with h | h | h | h <;> rcases h' with h' | h' | h' | h' <;> omega
  have hD2in : ¬ In4 (D + 1) (D + 2) (D + 3) D D2 := fun h => by rcases h with h | h | h | h <;> omega
  obtain ⟨s1, s2, s3, e1, g1, q1, e2, g2, q2, e3, g3, q3⟩ := known_plain
  obtain ⟨t1, f1, tg1⟩ := known_big2
  have g0 := newS_sg (n := 40) (by omega) (by omega)
  have gt0 := newS_sg (n := 8) (by omega) (by omega)
  have k1 : KOk s1.kept := by rw [q1]; exact ⟨by simp, by simp⟩
  have k2 : KOk s2.kept := by rw [q2]; exact ⟨by simp, fun x hx => by rw [List.eq_of_mem_replicate hx]; decide⟩
  have k3 : KOk s3.kept := by rw [q3]; exact ⟨by simp, fun x hx => by rw [List.eq_of_mem_replicate hx]; decide⟩
  have hMD := hidden (And.intro hD7 (And.intro hD hD2))
  clear hD7 hD hD2
  have hnew := new_ok 7 w o D7 (by omega) (by omega)
  go_enter Try.func17, Try.ntmps17
  go_wp2_with fail
  refine hnew.mono ?_; rintro e W1 ⟨v, o1, rfl, hs, p7, -, rfl, hd7⟩
  have hst := hs.above0 (M := M)
  have hop := sopen_few hd7 rfl (by simp [DiskM.new])
  clear hnew hs hd7
  go_wp2_with fail
  refine hop.mono ?_; rintro e W2 ⟨v, o2, rfl, hs, rfl⟩
  have hst := hst.trans hs.above0
  have hnew := new_ok 40 W2 o2 D (by omega) (by omega)
  clear hop hs
  go_wp2_with fail
  refine hnew.mono ?_; rintro e W3 ⟨v, o3, rfl, hs, pd, -, rfl, hd⟩
  have hst := hst.trans hs.above0
  have hop := opens_any D (Nat.le_refl _) hD0 g0 (by omega) (by simp [newS, DiskM.new]) (t := newS 40) hd
  clear hnew hs hd
  go_wp2_with fail
  refine hop.mono ?_; rintro e Wm ⟨v, om, rfl, hs, ps, rfl, ha⟩
  have hst := hst.trans (hs.mono hAD)
  obtain ⟨E, hE1, hEf⟩ := fresh_tag om Wm.heap.size (M + 20)
  have hmk := hidden (run_make_zero (P := Try.prog) Wm 93 113 [Value.int .u64 0, .slice none 0 0] 2 32 Try.underlying93 inf113 rfl 257 (by omega) (by omega) .i64 .i64)
  have sA := ((Step.refl Nobody Wm om).alloc (.cells (List.replicate 257 [Value.int .u64 0, .slice none 0 0]).flatten.toArray 113) (E, 0)).only E
  have bA : (Wm.alloc (.cells (List.replicate 257 [Value.int .u64 0, .slice none 0 0]).flatten.toArray 113)).heap[Wm.heap.size]? = some (.cells (List.replicate 257 [Value.int .u64 0, .slice none 0 0]).flatten.toArray 113 (0, 0)) := heap_alloc_new Wm _
  have hmany : Many (Wm.alloc (.cells (List.replicate 257 [Value.int .u64 0, .slice none 0 0]).flatten.toArray 113)) (tagAt om Wm.heap.size (E, 0)) Wm.heap.size E 0 (List.replicate 257 [Value.int .u64 0, .slice none 0 0]).flatten := ⟨bA, tagAt_same _ _ _, zeros514, fun q hq => by omega⟩
  obtain ⟨Wn, hWn⟩ : ∃ Wn, Wm.alloc (.cells (List.replicate 257 [Value.int .u64 0, .slice none 0 0]).flatten.toArray 113) = Wn := ⟨_, rfl⟩
  obtain ⟨on, hon⟩ : ∃ on, tagAt om Wm.heap.size (E, 0) = on := ⟨_, rfl⟩
  obtain ⟨cz, hcz⟩ : ∃ cz, (List.replicate 257 [Value.int .u64 0, .slice none 0 0]).flatten = cz := ⟨_, rfl⟩
  obtain ⟨mb, hmb⟩ : ∃ mb, Wm.heap.size = mb := ⟨_, rfl⟩
  rw [hWn] at hmk sA hmany
  rw [hon] at sA hmany
  rw [hcz] at hmany
  rw [hmb] at hmk hmany
  have hF := hidden (And.intro hmany sA)
  have hmbH := hidden hmb
  have hEfH := hidden hEf
  have hbase := hidden (And.intro ha hst)
  clear hop hs hWn hon hcz hmb bA sA hmany hEf ha hst
  go_wp2_with ((with_reducible apply lit_makeSlice); exact hmk.out; simp only [Act.put, List.setIfInBounds_toArray, List.set_cons_zero, List.set_cons_succ])
  clear hmk
  go_loopw [10] (fun i wr => ∃ (k : Nat) (oj : Own) (cur : List Value), k ≤ 257 ∧ i = .int .i64 k ∧ Many wr oj mb E k cur ∧ Step (Only E) Wm om wr oj) (fun i _ => 257 - (intOf i).toNat)
  case atStart => exact ⟨0, on, cz, by omega, rfl, hF.out.1, hF.out.2⟩
  case round =>
    clear hF
    obtain ⟨k, oj, cur, hk, rfl, hmy, hst⟩ := hrel
    by_cases hlt : k < 257
    · have hltI : (k : Int) < 257 := by omega
      have hbs := hidden (show (Instr.buildSlice 28 1 #[(0, .int .u8 1)]).run Try.prog wr = .ok (.slice (some ⟨wr.heap.size, 0, none⟩) 1 1) (wr.alloc (.cells #[.int .u8 1] 5)) from by kernel_rfl)
      have s1 := (Step.refl Nobody wr oj).alloc (.cells #[.int .u8 1] 5) (0, 0)
      have hby := bytes_new wr oj [1] (by simp)
      obtain ⟨m1, m2, m3, m4⟩ := hmy
      have m1' := (s1.block mb (lt_of_block m1) (nn _)).trans m1
      have m2' := (s1.own mb (lt_of_block m1)).trans m2
      obtain ⟨W1x, hW1x⟩ : ∃ W1x, wr.alloc (.cells #[.int .u8 1] 5) = W1x := ⟨_, rfl⟩
      obtain ⟨g, hg⟩ : ∃ g, wr.heap.size = g := ⟨_, rfl⟩
      have hby : Bytes (wr.alloc (.cells #[.int .u8 1] 5)) (tagAt oj wr.heap.size (0, 0)) (.slice (some ⟨wr.heap.size, 0, none⟩) 1 1) [1] := hby
      generalize tagAt oj wr.heap.size (0, 0) = o1x at *
      rw [hW1x] at hbs s1 hby m1'
      rw [hg] at hbs hby
      have hso := hidden (run_storeAt_mid (P := Try.prog) W1x mb (k * 2) 113 #[.int .u64 1, .slice (some ⟨g, 0, none⟩) 1 1] (there_of_block m1' (k * 2) 2 (by omega)) (by kernel_rfl) (by simp [Value.oneCell']))
      have hs2 := heap_setCells_same mb 113 [.int .u64 1, .slice (some ⟨g, 0, none⟩) 1 1] (k * 2) W1x cur m1' (by simp; omega)
      simp only [List.length_cons, List.length_nil] at hs2
      rw [set_two _ _ (by omega)] at hs2
      have s2 := (Step.refl (Only E) W1x o1x).setCells mb (k * 2) [.int .u64 1, .slice (some ⟨g, 0, none⟩) 1 1] (.inl (by show (o1x mb).1 = E; rw [m2']))
      have nE0 : ¬ Only E 0 := fun h => by change 0 = E at h; omega
      have hF := hidden (And.intro (show Many (W1x.setCells mb (k * 2) [.int .u64 1, .slice (some ⟨g, 0, none⟩) 1 1]) o1x mb E (k + 1) ((cur.set (k * 2) (.int .u64 1)).set (k * 2 + 1) (.slice (some ⟨g, 0, none⟩) 1 1)) from
        ⟨hs2, m2', by simp [m3], fun q hq => by
          by_cases hqk : q = k
          · subst hqk
            refine ⟨?_, _, ?_, hby.step s2 nE0⟩
            · rw [List.getElem?_set_ne (by omega), Nat.mul_comm, List.getElem?_set_self (by omega)]
            · rw [Nat.mul_comm 2 q, List.getElem?_set_self (by rw [List.length_set]; omega)]
          · obtain ⟨q1, bv, q2, q3⟩ := m4 q (by omega)
            refine ⟨?_, bv, ?_, (q3.step s1 (nn _)).step s2 nE0⟩
            · rw [List.getElem?_set_ne (by omega), List.getElem?_set_ne (by omega)]; exact q1
            · rw [List.getElem?_set_ne (by omega), List.getElem?_set_ne (by omega)]; exact q2⟩) ((hst.trans (s1.only E)).trans s2))
      clear hs2 s2 s1 m1 m1' m2 m2' m3 m4 hby hst hW1x hg
      go_wp2_with (first
        | ((with_reducible apply lit_buildSlice #[(0, .int .u8 1)] rfl); exact hbs.out; simp only [Act.put, List.setIfInBounds_toArray, List.set_cons_zero, List.set_cons_succ])
        | ((with_reducible refine lit_store_at hso.out ?_ ?_ ?_); rfl; rfl; simp only [Act.put]))
      go_roundw
      case rel => exact ⟨k + 1, o1x, _, by omega, by go_num, hF.out.1, hF.out.2⟩
      case measure => simp [intOf]; omega
    · obtain rfl : k = 257 := by omega
      obtain ⟨ha, hst0⟩ := hbase.out
      have stU := hst.untag hEfH.out
      have hmL := hmy.lines (by omega) 257 (by omega)
      have hmS := hmy.lines (by omega) 256 (by omega)
      obtain ⟨oU, hoU⟩ : ∃ oU, untag E oj = oU := ⟨_, rfl⟩
      rw [hoU] at stU hmL hmS
      have ha := ha.step0 stU
      have hst := hst0.trans stU.above0
      clear stU hmy hoU hst0 hbase hmbH
      have hc := promise_is ht ha g0 KOk.zero 0#64 (promise_no g0 (by decide +kernel))
      rw [(show (((0#64).toNat : Nat) : Int) = 0 from rfl)] at hc
      clear ha
      go_wp2_with fail
      refine hc.mono ?_; rintro e X1 ⟨v, y1, rfl, hs, rfl, ha⟩
      have hst := hst.trans (hs.mono h4)
      have hmL := hmL.step hs (in4_0 ht)
      have hmS := hmS.step hs (in4_0 ht)
      clear hc hs
      have hc := promise_is ht ha g0 KOk.zero 281474976710657#64 (promise_no g0 (by decide +kernel))
      rw [(show (((281474976710657#64).toNat : Nat) : Int) = 281474976710657 from rfl)] at hc
      clear ha
      go_wp2_with fail
      refine hc.mono ?_; rintro e X2 ⟨v, y2, rfl, hs, rfl, ha⟩
      have hst := hst.trans (hs.mono h4)
      have hmL := hmL.step hs (in4_0 ht)
      have hmS := hmS.step hs (in4_0 ht)
      clear hc hs
      have hc := adopt_is ht ha g0 0#64 (Lines.nil X2 y2 0) (by simp) (adopt_no g0 (by decide +kernel))
      rw [(show (((0#64).toNat : Nat) : Int) = 0 from rfl)] at hc
      clear ha
      go_wp2_with fail
      refine hc.mono ?_; rintro e X3 ⟨v, y3, rfl, hs, rfl, ha⟩
      have hst := hst.trans (hs.mono h4)
      have hmL := hmL.step hs (in4_0 ht)
      have hmS := hmS.step hs (in4_0 ht)
      clear hc hs
      have hc := adopt_is ht ha g0 1#64 hmL (by simp) (adopt_no g0 (by decide +kernel))
      rw [(show (((1#64).toNat : Nat) : Int) = 1 from rfl)] at hc
      clear ha
      go_wp2_with fail
      refine hc.mono ?_; rintro e X4 ⟨v, y4, rfl, hs, rfl, ha⟩
      have hst := hst.trans (hs.mono h4)
      have hmL := hmL.step hs (in4_0 ht)
      have hmS := hmS.step hs (in4_0 ht)
      clear hc hs
      have hc := line_any X4 y4 2#64 [97] (by simp)
      rw [(show (((2#64).toNat : Nat) : Int) = 2 from rfl)] at hc
      have hc : Calls Try.prog 63 #[.int .u64 2, .string ⟨#[97]⟩] X4 (Ret Nobody X4 y4 fun v w' o' => Lines w' o' 0 v [⟨2#64, [97]⟩]) := hc
      go_wp2_with fail
      refine hc.mono ?_; rintro e X5 ⟨v, y5, rfl, hs, hl⟩
      have hst := hst.trans hs.above0
      have ha := ha.step0 hs
      have hmL := hmL.step hs (nn _)
      have hmS := hmS.step hs (nn _)
      obtain ⟨la, lc, rfl⟩ := hl.form
      clear hc hs
      have hc := adopt_is ht ha g0 1#64 hl (by simp) (adopt_no g0 (by decide +kernel))
      rw [(show (((1#64).toNat : Nat) : Int) = 1 from rfl)] at hc
      clear ha
      go_wp2_with fail
      refine hc.mono ?_; rintro e X6 ⟨v, y6, rfl, hs, rfl, ha⟩
      have hst := hst.trans (hs.mono h4)
      have hmL := hmL.step hs (in4_0 ht)
      have hmS := hmS.step hs (in4_0 ht)
      clear hc hs
      have hc := line_any X6 y6 0#64 [97] (by simp)
      rw [(show (((0#64).toNat : Nat) : Int) = 0 from rfl)] at hc
      have hc : Calls Try.prog 63 #[.int .u64 0, .string ⟨#[97]⟩] X6 (Ret Nobody X6 y6 fun v w' o' => Lines w' o' 0 v [⟨0#64, [97]⟩]) := hc
      go_wp2_with fail
      refine hc.mono ?_; rintro e X7 ⟨v, y7, rfl, hs, hl⟩
      have hst := hst.trans hs.above0
      have ha := ha.step0 hs
      have hmL := hmL.step hs (nn _)
      have hmS := hmS.step hs (nn _)
      obtain ⟨la, lc, rfl⟩ := hl.form
      clear hc hs
      have hc := adopt_is ht ha g0 1#64 hl (by simp) (adopt_no g0 (by decide +kernel))
      rw [(show (((1#64).toNat : Nat) : Int) = 1 from rfl)] at hc
      clear ha
      go_wp2_with fail
      refine hc.mono ?_; rintro e X8 ⟨v, y8, rfl, hs, rfl, ha⟩
      have hst := hst.trans (hs.mono h4)
      have hmL := hmL.step hs (in4_0 ht)
      have hmS := hmS.step hs (in4_0 ht)
      clear hc hs
      have hc := line_any X8 y8 1#64 [] (by simp)
      rw [(show (((1#64).toNat : Nat) : Int) = 1 from rfl)] at hc
      have hc : Calls Try.prog 63 #[.int .u64 1, .string ⟨#[]⟩] X8 (Ret Nobody X8 y8 fun v w' o' => Lines w' o' 0 v [⟨1#64, []⟩]) := hc
      go_wp2_with fail
      refine hc.mono ?_; rintro e X9 ⟨v, y9, rfl, hs, hl⟩
      have hst := hst.trans hs.above0
      have ha := ha.step0 hs
      have hmL := hmL.step hs (nn _)
      have hmS := hmS.step hs (nn _)
      obtain ⟨la, lc, rfl⟩ := hl.form
      clear hc hs
      have hc := adopt_is ht ha g0 1#64 hl (by simp) (adopt_no g0 (by decide +kernel))
      rw [(show (((1#64).toNat : Nat) : Int) = 1 from rfl)] at hc
      clear ha
      go_wp2_with fail
      refine hc.mono ?_; rintro e X10 ⟨v, y10, rfl, hs, rfl, ha⟩
      have hst := hst.trans (hs.mono h4)
      have hmL := hmL.step hs (in4_0 ht)
      have hmS := hmS.step hs (in4_0 ht)
      clear hc hs
      have hmk : (Instr.makeSlice 28 (.int .i64 4097) (.int .i64 4097)).run Try.prog X10 = .ok (.slice (some ⟨X10.heap.size, 0, none⟩) 4097 4097) (X10.alloc (.cells (bvs (List.replicate 4097 0)).toArray 5)) := make_bytes X10 4097 (by omega)
      have sB := (Step.refl Nobody X10 y10).alloc (.cells (bvs (List.replicate 4097 0)).toArray 5) (0, 0)
      have hby : Bytes (X10.alloc (.cells (bvs (List.replicate 4097 0)).toArray 5)) (tagAt y10 X10.heap.size (0, 0)) (.slice (some ⟨X10.heap.size, 0, none⟩) 4097 4097) (List.replicate 4097 0) := by
        have := bytes_new X10 y10 (List.replicate 4097 0) (by rw [List.length_replicate]; omega)
        rw [List.length_replicate] at this; exact this
      obtain ⟨X11a, hX11⟩ : ∃ X11a, X10.alloc (.cells (bvs (List.replicate 4097 0)).toArray 5) = X11a := ⟨_, rfl⟩
      generalize tagAt y10 X10.heap.size (0, 0) = y11a at sB hby
      rw [hX11] at hmk sB hby
      have hbs := buildSlice93 X11a 1 (.slice (some ⟨X10.heap.size, 0, none⟩) 4097 4097)
      have sC := (Step.refl Nobody X11a y11a).alloc (.cells [.int .u64 1, .slice (some ⟨X10.heap.size, 0, none⟩) 4097 4097].toArray 113) (0, 0)
      have hl : Lines (X11a.alloc (.cells [.int .u64 1, .slice (some ⟨X10.heap.size, 0, none⟩) 4097 4097].toArray 113)) (tagAt y11a X11a.heap.size (0, 0)) 0 (.slice (some ⟨X11a.heap.size, 0, none⟩) 1 1) [⟨1#64, List.replicate 4097 0⟩] :=
        ⟨_, .inr ⟨X11a.heap.size, 0, 1, rfl, Nat.le_refl _, by simp [maxLen], by rw [tagAt_same], by simp, range_whole (heap_alloc_new X11a _)⟩, LnC.single ⟨1#64, List.replicate 4097 0⟩ (hby.step sC (nn _)), Fresh.zero _, fun u _ => Fresh.zero u⟩
      obtain ⟨X11, hX112⟩ : ∃ X11, X11a.alloc (.cells [.int .u64 1, .slice (some ⟨X10.heap.size, 0, none⟩) 4097 4097].toArray 113) = X11 := ⟨_, rfl⟩
      generalize tagAt y11a X11a.heap.size (0, 0) = y11 at sC hl
      rw [hX112] at hbs sC hl
      have hs := sB.trans sC
      have hst := hst.trans hs.above0
      have ha := ha.step0 hs
      have hmL := hmL.step hs (nn _)
      have hmS := hmS.step hs (nn _)
      have hXE := hidden hX112
      clear hs sB sC hby hX11 hX112
      have hc := adopt_is ht ha g0 1#64 hl (by simp) (adopt_no g0 (by decide +kernel))
      rw [(show (((1#64).toNat : Nat) : Int) = 1 from rfl)] at hc
      clear ha
      go_wp2_with fail
      rw [hXE.out]
      refine hc.mono ?_; rintro e X12 ⟨v, y12, rfl, hs, rfl, ha⟩
      have hst := hst.trans (hs.mono h4)
      have hmL := hmL.step hs (in4_0 ht)
      have hmS := hmS.step hs (in4_0 ht)
      clear hc hs
      clear hmk hbs hXE
      have hc := append_is ht ha g0 KOk.zero (Lines.nil X12 y12 0) (by simp) (append_no g0 (by decide +kernel))
      clear ha
      go_wp2_with fail
      refine hc.mono ?_; rintro e X13 ⟨v, y13, rfl, hs, rfl, ha⟩
      have hst := hst.trans (hs.mono h4)
      have hmL := hmL.step hs (in4_0 ht)
      have hmS := hmS.step hs (in4_0 ht)
      clear hc hs
      have hc := line_any X13 y13 0#64 [97] (by simp)
      rw [(show (((0#64).toNat : Nat) : Int) = 0 from rfl)] at hc
      have hc : Calls Try.prog 63 #[.int .u64 0, .string ⟨#[97]⟩] X13 (Ret Nobody X13 y13 fun v w' o' => Lines w' o' 0 v [⟨0#64, [97]⟩]) := hc
      go_wp2_with fail
      refine hc.mono ?_; rintro e X14 ⟨v, y14, rfl, hs, hl⟩
      have hst := hst.trans hs.above0
      have ha := ha.step0 hs
      have hmL := hmL.step hs (nn _)
      have hmS := hmS.step hs (nn _)
      obtain ⟨la, lc, rfl⟩ := hl.form
      clear hc hs
      have hc := append_is ht ha g0 KOk.zero hl (by simp) (append_no g0 (by decide +kernel))
      clear ha
      go_wp2_with fail
      refine hc.mono ?_; rintro e X15 ⟨v, y15, rfl, hs, rfl, ha⟩
      have hst := hst.trans (hs.mono h4)
      have hmL := hmL.step hs (in4_0 ht)
      have hmS := hmS.step hs (in4_0 ht)
      clear hc hs
      have hc := line_any X15 y15 1#64 [97] (by simp)
      rw [(show (((1#64).toNat : Nat) : Int) = 1 from rfl)] at hc
      have hc : Calls Try.prog 63 #[.int .u64 1, .string ⟨#[97]⟩] X15 (Ret Nobody X15 y15 fun v w' o' => Lines w' o' 0 v [⟨1#64, [97]⟩]) := hc
      go_wp2_with fail
      refine hc.mono ?_; rintro e X16 ⟨v, y16, rfl, hs, hl⟩
      have hst := hst.trans hs.above0
      have ha := ha.step0 hs
      have hmL := hmL.step hs (nn _)
      have hmS := hmS.step hs (nn _)
      obtain ⟨la, lc, rfl⟩ := hl.form
      clear hc hs
      have hc := append_is ht ha g0 KOk.zero hl (by simp) (append_no g0 (by decide +kernel))
      clear ha
      go_wp2_with fail
      refine hc.mono ?_; rintro e X17 ⟨v, y17, rfl, hs, rfl, ha⟩
      have hst := hst.trans (hs.mono h4)
      have hmL := hmL.step hs (in4_0 ht)
      have hmS := hmS.step hs (in4_0 ht)
      clear hc hs
      have hc := promise_is ht ha g0 KOk.zero 3#64 e1
      rw [(show (((3#64).toNat : Nat) : Int) = 3 from rfl)] at hc
      clear ha
      go_wp2_with fail
      refine hc.mono ?_; rintro e X18 ⟨v, y18, rfl, hs, rfl, ha⟩
      have hst := hst.trans (hs.mono h4)
      have hmL := hmL.step hs (in4_0 ht)
      have hmS := hmS.step hs (in4_0 ht)
      clear hc hs
      have hc := adopt_is ht ha g1 2#64 (Lines.nil X18 y18 0) (by simp) (adopt_no g1 (by rw [q1]; decide +kernel))
      rw [(show (((2#64).toNat : Nat) : Int) = 2 from rfl)] at hc
      clear ha
      go_wp2_with fail
      refine hc.mono ?_; rintro e X19 ⟨v, y19, rfl, hs, rfl, ha⟩
      have hst := hst.trans (hs.mono h4)
      have hmL := hmL.step hs (in4_0 ht)
      have hmS := hmS.step hs (in4_0 ht)
      clear hc hs
      have hc := adopt_is ht ha g1 3#64 hmS (by simp) e2
      rw [(show (((3#64).toNat : Nat) : Int) = 3 from rfl)] at hc
      clear ha
      have hslc := hidden (sliceMany X19 mb)
      go_wp2_with ((with_reducible apply lit_slice); exact hslc.out; simp only [Act.put, List.setIfInBounds_toArray, List.set_cons_zero, List.set_cons_succ])
      refine hc.mono ?_; rintro e X20 ⟨v, y20, rfl, hs, rfl, ha⟩
      have hst := hst.trans (hs.mono h4)
      have hmL := hmL.step hs (in4_0 ht)
      have hmS := hmS.step hs (in4_0 ht)
      clear hc hs
      have hc := line_any X20 y20 3#64 [98] (by simp)
      rw [(show (((3#64).toNat : Nat) : Int) = 3 from rfl)] at hc
      have hc : Calls Try.prog 63 #[.int .u64 3, .string ⟨#[98]⟩] X20 (Ret Nobody X20 y20 fun v w' o' => Lines w' o' 0 v [⟨3#64, [98]⟩]) := hc
      go_wp2_with fail
      refine hc.mono ?_; rintro e X21 ⟨v, y21, rfl, hs, hl⟩
      have hst := hst.trans hs.above0
      have ha := ha.step0 hs
      have hmL := hmL.step hs (nn _)
      have hmS := hmS.step hs (nn _)
      obtain ⟨la, lc, rfl⟩ := hl.form
      clear hc hs
      have hc := append_is ht ha g2 k2 hl (by simp) (append_no g2 (by rw [q2]; decide +kernel))
      clear ha
      go_wp2_with fail
      refine hc.mono ?_; rintro e X22 ⟨v, y22, rfl, hs, rfl, ha⟩
      have hst := hst.trans (hs.mono h4)
      have hmL := hmL.step hs (in4_0 ht)
      have hmS := hmS.step hs (in4_0 ht)
      clear hc hs
      have hc := adopt_is ht ha g2 3#64 (Lines.nil X22 y22 0) (by simp) (adopt_no g2 (by rw [q2]; decide +kernel))
      rw [(show (((3#64).toNat : Nat) : Int) = 3 from rfl)] at hc
      clear ha
      go_wp2_with fail
      refine hc.mono ?_; rintro e X23 ⟨v, y23, rfl, hs, rfl, ha⟩
      have hst := hst.trans (hs.mono h4)
      have hmL := hmL.step hs (in4_0 ht)
      have hmS := hmS.step hs (in4_0 ht)
      clear hc hs
      have hc := promise_is ht ha g2 k2 top0 e3
      rw [(show (((top0).toNat : Nat) : Int) = 281474976710656 from rfl)] at hc
      clear ha
      go_wp2_with fail
      refine hc.mono ?_; rintro e X24 ⟨v, y24, rfl, hs, rfl, ha⟩
      have hst := hst.trans (hs.mono h4)
      have hmL := hmL.step hs (in4_0 ht)
      have hmS := hmS.step hs (in4_0 ht)
      clear hc hs
      have hc := line_any X24 y24 3#64 [98] (by simp)
      rw [(show (((3#64).toNat : Nat) : Int) = 3 from rfl)] at hc
      have hc : Calls Try.prog 63 #[.int .u64 3, .string ⟨#[98]⟩] X24 (Ret Nobody X24 y24 fun v w' o' => Lines w' o' 0 v [⟨3#64, [98]⟩]) := hc
      go_wp2_with fail
      refine hc.mono ?_; rintro e X25 ⟨v, y25, rfl, hs, hl⟩
      have hst := hst.trans hs.above0
      have ha := ha.step0 hs
      have hmL := hmL.step hs (nn _)
      have hmS := hmS.step hs (nn _)
      obtain ⟨la, lc, rfl⟩ := hl.form
      clear hc hs
      have hc := append_is ht ha g3 k3 hl (by simp) (append_no g3 (by rw [q3]; decide +kernel))
      clear ha
      go_wp2_with fail
      refine hc.mono ?_; rintro e X26 ⟨v, y26, rfl, hs, rfl, ha⟩
      have hst := hst.trans (hs.mono h4)
      have hmL := hmL.step hs (in4_0 ht)
      have hmS := hmS.step hs (in4_0 ht)
      clear hc hs
      have hnew := new_ok 8 X26 y26 D2 (by omega) (by omega)
      clear hmL hmS
      go_wp2_with fail
      refine hnew.mono ?_; rintro e X27 ⟨v, y27, rfl, hs, pb, -, rfl, hdb⟩
      have hst := hst.trans hs.above0
      have ha := ha.step0 hs
      have hop := opens_any D2 (Nat.le_refl _) hD20 gt0 (by omega) (by simp [newS, DiskM.new]) (t := newS 8) hdb
      clear hnew hs hdb
      go_wp2_with fail
      refine hop.mono ?_; rintro e X28 ⟨v, y28, rfl, hs, pt, rfl, hb⟩
      have hst := hst.trans (hs.mono hAD2)
      have ha := ha.step hs hx12
      clear hop hs
      have hmL : True := trivial
      have hmS : True := trivial
      have hmk : (Instr.makeSlice 28 (.int .i64 4096) (.int .i64 4096)).run Try.prog X28 = .ok (.slice (some ⟨X28.heap.size, 0, none⟩) 4096 4096) (X28.alloc (.cells (bvs (List.replicate 4096 0)).toArray 5)) := make_bytes X28 4096 (by omega)
      have sB := (Step.refl Nobody X28 y28).alloc (.cells (bvs (List.replicate 4096 0)).toArray 5) (0, 0)
      have hby : Bytes (X28.alloc (.cells (bvs (List.replicate 4096 0)).toArray 5)) (tagAt y28 X28.heap.size (0, 0)) (.slice (some ⟨X28.heap.size, 0, none⟩) 4096 4096) (List.replicate 4096 0) := by
        have := bytes_new X28 y28 (List.replicate 4096 0) (by rw [List.length_replicate]; omega)
        rw [List.length_replicate] at this; exact this
      obtain ⟨X29a, hX29⟩ : ∃ X29a, X28.alloc (.cells (bvs (List.replicate 4096 0)).toArray 5) = X29a := ⟨_, rfl⟩
      generalize tagAt y28 X28.heap.size (0, 0) = y29a at sB hby
      rw [hX29] at hmk sB hby
      have hbs := buildSlice93 X29a 1 (.slice (some ⟨X28.heap.size, 0, none⟩) 4096 4096)
      have sC := (Step.refl Nobody X29a y29a).alloc (.cells [.int .u64 1, .slice (some ⟨X28.heap.size, 0, none⟩) 4096 4096].toArray 113) (0, 0)
      have hl : Lines (X29a.alloc (.cells [.int .u64 1, .slice (some ⟨X28.heap.size, 0, none⟩) 4096 4096].toArray 113)) (tagAt y29a X29a.heap.size (0, 0)) 0 (.slice (some ⟨X29a.heap.size, 0, none⟩) 1 1) [⟨1#64, List.replicate 4096 0⟩] :=
        ⟨_, .inr ⟨X29a.heap.size, 0, 1, rfl, Nat.le_refl _, by simp [maxLen], by rw [tagAt_same], by simp, range_whole (heap_alloc_new X29a _)⟩, LnC.single ⟨1#64, List.replicate 4096 0⟩ (hby.step sC (nn _)), Fresh.zero _, fun u _ => Fresh.zero u⟩
      obtain ⟨X29, hX292⟩ : ∃ X29, X29a.alloc (.cells [.int .u64 1, .slice (some ⟨X28.heap.size, 0, none⟩) 4096 4096].toArray 113) = X29 := ⟨_, rfl⟩
      generalize tagAt y29a X29a.heap.size (0, 0) = y29 at sC hl
      rw [hX292] at hbs sC hl
      have hs := sB.trans sC
      have hst := hst.trans hs.above0
      have ha := ha.step0 hs
      have hb := hb.step0 hs
      have hXE := hidden hX292
      clear hs sB sC hby hX29 hX292
      have hmkH := hidden hmk
      have hbsH := hidden hbs
      have hc := adopt_is ht2 hb gt0 1#64 hl (by simp) known_big
      rw [(show (((1#64).toNat : Nat) : Int) = 1 from rfl)] at hc
      clear hmk hbs hb hmL hmS
      go_wp2_with (first
        | ((with_reducible apply lit_makeSlice); exact hmkH.out; simp only [Act.put, List.setIfInBounds_toArray, List.set_cons_zero, List.set_cons_succ])
        | ((with_reducible apply lit_buildSlice #[(0, .agg #[.int .u64 1, .slice (some ⟨X28.heap.size, 0, none⟩) 4096 4096])] rfl); exact hbsH.out; simp only [Act.put, List.setIfInBounds_toArray, List.set_cons_zero, List.set_cons_succ]))
      refine hc.mono ?_; rintro e X30 ⟨v, y30, rfl, hs, rfl, hb⟩
      have hst := hst.trans (hs.mono h42)
      have ha := ha.step hs hx42
      have hc := promise_is ht2 hb gt0 KOk.zero 7#64 f1
      rw [(show (((7#64).toNat : Nat) : Int) = 7 from rfl)] at hc
      clear hs hmkH hbsH hb hl
      go_wp2_with fail
      refine hc.mono ?_; rintro e X31 ⟨v, y31, rfl, hs, rfl, -⟩
      have hst := hst.trans (hs.mono h42)
      have ha := ha.step hs hx42
      obtain ⟨da, db, dpa, dpb, dk, dkv, dhp, dbx, dln, dla, dlb, ddk⟩ := ha
      have hkl := kill_any ddk
      clear hc hs
      go_wp2_with fail
      refine hkl.mono ?_; rintro e X32 ⟨v, y32, rfl, hs, rfl, hd⟩
      have hst := hst.trans (hs.mono hDM)
      have nD : ∀ t, In4 (D + 1) (D + 2) (D + 3) D t → t ≠ D → ¬ Only D t := fun t _ h1 h2 => h1 h2
      have ha : StoreAt X32 y32 (D + 1) (D + 2) (D + 3) D ps pd 0 { s3 with d := s3.d.kill } := by
        have n0 : ¬ Only D 0 := fun h => hD0 h.symm
        have nS : ¬ Only D (D + 1) := fun h => by change D + 1 = D at h; omega
        have nX : ¬ Only D da := fun h => by change da = D at h; rcases dhp with h' | h' <;> omega
        have nY : ¬ Only D db := fun h => by change db = D at h; rcases dhp with h' | h' <;> omega
        exact ⟨da, db, dpa, dpb, dk, dkv, dhp, dbx.step hs nS, dln.step hs n0, dla.step hs nX n0, dlb.step hs nY n0, hd⟩
      have hop := sopen_dead hd rfl
      clear hkl hs dbx dln dla dlb ddk
      go_wp2_with fail
      refine hop.mono ?_; rintro e X33 ⟨v, y33, rfl, hs, rfl⟩
      have hst := hst.trans hs.above0
      have ha := ha.step0 hs
      have hdd : Calls Try.prog 60 #[.pointer (some ⟨ps, 0, none⟩)] X33 fun e w' => e = .returned (.bool true) ∧ X33 = w' := by
        have := sdead_any ha
        rw [show (({ s3 with d := s3.d.kill } : StoreM).dead || ({ s3 with d := s3.d.kill } : StoreM).d.dead) = true from by simp [DiskM.kill]] at this; exact this
      clear hop hs
      go_wp2_with fail
      refine hdd.mono ?_; rintro e X34 ⟨rfl, rfl⟩
      have hpr := spromise_any ht ha (show s3.d.row.length ≤ 600000 by rw [g3.row]; simp) g3.pgOk k3.small 9#64
      rw [show StoreM.promise 9#64 { s3 with d := s3.d.kill } = ({ s3 with d := s3.d.kill }, 9) from by unfold StoreM.promise; simp [DiskM.kill]] at hpr
      rw [(show (((9#64).toNat : Nat) : Int) = 9 from rfl)] at hpr
      clear hdd
      go_wp2_with fail
      refine hpr.mono ?_; rintro e X35 ⟨v, y35, rfl, hs, rfl, -⟩
      have hst := hst.trans (hs.mono h4)
      have hke := keeps_any X35 y35
      clear hpr hs ha
      go_wp2_with fail
      refine hke.mono ?_; rintro e Wz ⟨v, oz, rfl, hs, rfl⟩
      have hst := hst.trans (hs.above0 (M := M))
      clear hs hke
      go_wp2_with fail
      go_ret
      exact ⟨_, oz, rfl, hst.noneAbove hM, rfl⟩
end Go.Proofs.YtfgggkheadfiaaaR
/- The statement StoreKnown, for every input; no conditions. -/
namespace Go.Proofs.YtfgggkheadfiaaaR
open Go Go.RowKit Go.ChangeShapes Go.WideShapes Go.ChangeAt

/-! ### StoreKnown -/
set_option maxRecDepth 100000 in
theorem storeKnown_lifted (os : Os) (started : os.Started) (H : Type) (enc : TypeId × Value → H) :
    ReturnsInHanded {} Try.checked os 17 .any (Rows.storeKnownSpec.pre6 enc Try.prog Try.f17 Rows.storeKnownRow.domain false) (Rows.storeKnownSpec.post enc Try.prog Try.f17 false true false false) := by
  refine returnsInHanded_of_change (C := Try.checked) ownKnobs started (by kernel_rfl) Try.func17
    (ChangeSpec.witness6 (enc := enc) (C := Try.checked) false ⟨#[], #[], []⟩ 8 (by kernel_rfl) (by kernel_rfl) (by kernel_rfl) (by kernel_rfl)) ?_
  intro W base args ds gs before hval0 hW hcnd _
  have hval : ∀ (j : Nat) t v, Try.f17.params[j]? = some t → args[j]? = some v → Value.okWide Try.prog W .any base t v := hval0
  have hW' := hW
  obtain ⟨p, q, hA0, hV, rfl, hfz, hnd⟩ := hW
  have hA : DataW.TrodAll enc Try.prog W 0 (fun _ => true) true Try.f17.params.toList args.toList ds p := hA0
  rw [Try.params17] at hA hval
  obtain ⟨rfl, rfl, rfl⟩ := trodAll_none hA
  obtain ⟨rfl, rfl⟩ := trodVars_none hV
  clear hA0 hval0
  refine (storeKnown_walk W (fun _ => (0, 0))).mono fun e W' he => ?_
  obtain ⟨v, o', rfl, hs, rfl⟩ := he
  exact ⟨_, rfl, law_post laidOutTry (by kernel_rfl) rfl Try.underlying4 hW' rfl rfl rfl rfl rfl hs.below⟩

/-- THE STATEMENT. -/
theorem storeKnown_holds : Rows.StoreKnownSaid :=
  OpenClaim.holds_of_wide 17 Try.f17 rfl rfl rfl rfl rfl rfl rfl ⟨rfl, rfl, rfl, rfl, rfl⟩ rfl rfl rfl rfl rfl (by kernel_rfl) Try.func17 (by kernel_rfl)
    (of_decide_eq_true (by kernel_rfl)) (by unfold Func.isWrapper; first | (rw [if_pos (by decide +kernel)]; kernel_rfl) | (rw [if_neg (by decide +kernel)]; exact ⟨rfl, rfl⟩))
    (fun os started H enc _ => storeKnown_lifted os started H enc)
#print axioms storeKnown_holds
end Go.Proofs.YtfgggkheadfiaaaR
