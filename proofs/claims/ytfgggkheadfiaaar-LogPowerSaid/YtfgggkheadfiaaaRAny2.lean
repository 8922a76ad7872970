/- Regions that draw their order, once more: what is asked behind each operation is told for each by itself (N). -/
import Derived.Test.YtfgggkheadfiaaaRMid
namespace Go.Proofs.YtfgggkheadfiaaaR
open Go Go.RowKit

section
variable {P : Program} {ops : Array Oper} {Q : Exit → Act → World → Prop} {md : Region.Mode} {N : Nat → World → Prop}
def wpAnyG (P : Program) (md : Region.Mode) (ops : Array Oper) (Q : Exit → Act → World → Prop) (N : Nat → World → Prop) : Nat → Array Bool → Act → World → Prop
  | 0, listed, a, w => Region.ready md ops listed = [] ∧ Q .normal a w
  | fuel + 1, listed, a, w =>
    (Region.ready md ops listed = [] → Q .normal a w) ∧
    ∀ i ∈ Region.ready md ops listed, wpOp P ops Q i (fun a' w' => (w' = w ∨ N i w') ∧ wpAnyG P md ops Q N fuel (listed.setIfInBounds i true) a' w') a w
theorem wpAny_of_g : ∀ (fuel : Nat) (listed : Array Bool) (a : Act) (w : World), wpAnyG P md ops Q N fuel listed a w → wpAny P md ops Q fuel listed a w
  | 0, _, _, _, h => h
  | fuel + 1, _, _, _, h => ⟨h.1, fun i hi => wpOp_mono (fun a' w' h' => wpAny_of_g fuel _ a' w' h'.2) (h.2 i hi)⟩
theorem wpAnyG_first {i : Nat} {oi : Oper} {v : Value} (hi : ops[i]? = some oi) (hsel : ∀ (j : Nat) (o : Oper) cs b, ops[j]? = some o → o.op ≠ .select cs b)
    (hQ : ∀ c a w, Q (.panic c) (a.put oi.dst v) w → Q (.panic c) a w) {St : World → Prop} (hN : ∀ (j : Nat) (w : World), depOn md ops j i = false → N j w → St w) :
    ∀ (fuel : Nat) (listed : Array Bool) (a : Act) (w : World),
      (∀ j oj, ops[j]? = some oj → j ≠ i → listed.getD j true = false → (∀ e ∈ oj.after, Region.binds md e = true → e.on ≠ i) → oi.apart ops oj = true) →
      i ∈ Region.ready md ops listed → YieldsIf P ops St oi v a → St w →
      wpAnyG P md ops Q N fuel (listed.setIfInBounds i true) (a.put oi.dst v) w → wpAnyG P md ops Q N (fuel + 1) listed a w := by
  intro fuel
  induction fuel with
  | zero =>
    intro listed a w _ hr hy hS H
    refine ⟨fun h => (by rw [h] at hr; cases hr), fun j hj => ?_⟩
    by_cases hji : j = i
    · subst hji; exact hy.wpOp hi hS ⟨.inl rfl, H⟩
    · have := ready_mono hj hji
      rw [H.1] at this
      cases this
  | succ fuel ih =>
    intro listed a w hfree hr hy hS H
    refine ⟨fun h => (by rw [h] at hr; cases hr), fun j hj => ?_⟩
    by_cases hji : j = i
    · subst hji; exact hy.wpOp hi hS ⟨.inl rfl, H⟩
    · have h1 := H.2 j (ready_mono hj hji)
      obtain ⟨hjun, oj, hoj, hall⟩ := mem_ready.1 hj
      have hnot : ∀ e ∈ oj.after, Region.binds md e = true → e.on ≠ i := fun e he hb heq => by
        have h1 := hall e he hb
        have h0 := (mem_ready.1 hr).1
        rw [heq] at h1
        rcases Nat.lt_or_ge i listed.size with h' | h'
        · simp [h'] at h0 h1; rw [h0] at h1; cases h1
        · simp [Array.getElem?_eq_none h'] at h1
      have hdep : depOn md ops j i = false := by
        unfold depOn
        simp only [hoj]
        cases hq : (oj.after.any fun e => Region.binds md e && e.on == i)
        · rfl
        · obtain ⟨e, he, hb⟩ := Array.any_eq_true'.1 hq
          simp only [Bool.and_eq_true, beq_iff_eq] at hb
          exact absurd hb.2 (hnot e he hb.1)
      have h2 := wpOp_putIf hoj (hfree j oj hoj hji hjun hnot) (fun cs b => hsel i oi cs b hi) (fun cs b => hsel j oj cs b hoj) hQ hy h1
      have hfree' : ∀ k ok, ops[k]? = some ok → k ≠ i → (listed.setIfInBounds j true).getD k true = false →
          (∀ e ∈ ok.after, Region.binds md e = true → e.on ≠ i) → oi.apart ops ok = true := fun k ok hk hki hun hno => by
        refine hfree k ok hk hki ?_ hno
        by_cases hjk : j = k
        · subst hjk; exact hjun
        · rw [getD_set_ne true hjk] at hun; exact hun
      refine wpOp_mono (fun a' w' h3 => ⟨h3.2.1, ih (listed.setIfInBounds j true) a' w' hfree' (ready_mono hr (Ne.symm hji)) h3.1 (by rcases h3.2.1 with rfl | h4; exact hS; exact hN j w' hdep h4) ?_⟩) h2
      rw [Array.setIfInBounds_comm _ _ hji]
      exact h3.2.2


theorem dep_out {i lo hi : Nat} (h : ((List.range hi).all fun j => decide (j < lo) || depOn md ops j i) = true) (j : Nat) (hd : depOn md ops j i = false) : j < lo ∨ hi ≤ j := by
  by_cases h1 : j < hi
  · have := List.all_eq_true.1 h j (List.mem_range.2 h1)
    simp only [hd, Bool.or_false, decide_eq_true_eq] at this
    exact .inl this
  · exact .inr (by omega)
/-- Take number i first: St is what it wants of the world; each operation that does not wait for it leaves that. -/
theorem wpAnyG_take {St : World → Prop} {i : Nat} {oi : Oper} {v : Value} {fuel : Nat} {listed : Array Bool} {a : Act} {w : World} (hi : (ops.toList.drop i).head? = some oi)
    (hs : Region.noSelect ops = true) (hf : Region.free md ops listed i = true) (hr : (Region.ready md ops listed).contains i = true)
    (hN : ∀ (j : Nat) (w : World), depOn md ops j i = false → N j w → St w)
    (hQ : ∀ c a w, Q (.panic c) (a.put oi.dst v) w → Q (.panic c) a w) (hy : YieldsIf P ops St oi v a) (hS : St w)
    (h : wpAnyG P md ops Q N fuel (listed.setIfInBounds i true) (a.put oi.dst v) w) : wpAnyG P md ops Q N (fuel + 1) listed a w :=
  wpAnyG_first (at_of_drop hi) (Region.noSelect_spec hs) hQ hN fuel listed a w (Region.free_spec (at_of_drop hi) hf) (by simpa using hr) hy hS h

/-- One operation alone may come up: it is walked as the only one of a plain region. -/
theorem wpAnyG_one {i : Nat} {oi : Oper} {fuel : Nat} {listed : Array Bool} {a : Act} {w : World} (hi : (ops.toList.drop i).head? = some oi) (hr : Region.ready md ops listed = [i])
    (h : wpList P ops (Exit.then (fun a' w' => (w' = w ∨ N i w') ∧ wpAnyG P md ops Q N fuel (listed.setIfInBounds i true) a' w') Q) [oi] a w) : wpAnyG P md ops Q N (fuel + 1) listed a w := by
  refine ⟨fun h0 => (by rw [hr] at h0; cases h0), fun j hj => ?_⟩
  rw [hr] at hj
  simp only [List.mem_singleton] at hj
  subst hj
  exact wpOp_one (at_of_drop hi) h

theorem wpAnyG_done {listed : Array Bool} {a : Act} {w : World} (hr : Region.ready md ops listed = []) (h : Q .normal a w) : ∀ fuel, wpAnyG P md ops Q N fuel listed a w
  | 0 => ⟨hr, h⟩
  | _ + 1 => ⟨fun _ => h, by rw [hr]; simp⟩


theorem wp_region_g {id : Nat} {a : Act} {w : World} (N : Nat → World → Prop) (hm : P.follows .mixedOrders = true)
    (h : wpAnyG P .any ops Q N ops.size (Array.replicate ops.size false) a w.drew) : (Code.region id ops true).wp P Q a w :=
  wp_region_any hm (wpAny_of_g _ _ _ _ h)
theorem wpAnyG_mid (idx dsts : List Nat) (T : Nat → Prop) (J : List Bool → World → Own → Prop) (R : Nat → Value → World → Own → Prop) {fuel : Nat} {listed : Array Bool} {a : Act} {w : World} {o : Own}
    (hok : midOk md ops listed idx dsts = true)
    (hR : ∀ k u w o w' o', R k u w o → Step T w o w' o' → R k u w' o')
    (us0 : List Value) (hus0 : us0.length = idx.length) (ha : Act.puts a dsts us0 = a)
    (h0 : J (List.replicate idx.length false) w o)
    (hstep : ∀ (k i : Nat) (op : Oper), idx[k]? = some i → ops[i]? = some op → ∀ (s : List Bool) (us : List Value) (w : World) (o : Own), s.length = idx.length → us.length = idx.length → s[k]? = some false →
      (∀ (j i' : Nat), idx[j]? = some i' → depOn md ops i i' = true → s[j]? = some true) → J s w o → (∀ j : Nat, s[j]? = some true → R j (us.getD j undef) w o) →
      wpList P ops (Exit.then (fun a' w' => ∃ v o', a' = (Act.puts a dsts us).put op.dst v ∧ Step T w o w' o' ∧ J (s.set k true) w' o' ∧ R k v w' o' ∧ (w' = w ∨ N i w')) Q) [op] (Act.puts a dsts us) w)
    (hend : ∀ (us : List Value) (w : World) (o : Own), us.length = idx.length → J (List.replicate idx.length true) w o → (∀ j : Nat, j < idx.length → R j (us.getD j undef) w o) →
      wpAnyG P md ops Q N fuel (listedOf listed idx (List.replicate idx.length true)) (Act.puts a dsts us) w) :
    wpAnyG P md ops Q N (fuel + idx.length) listed a w := by
  simp only [midOk, Bool.and_eq_true, beq_iff_eq, decide_eq_true_eq] at hok
  obtain ⟨⟨⟨⟨⟨hl, hni⟩, hnd⟩, hfr⟩, hdst⟩, hsub⟩ := hok
  have key : ∀ (c : Nat) (s : List Bool) (us : List Value) (w : World) (o : Own), s.count false = c → s.length = idx.length → us.length = idx.length → J s w o → (∀ j : Nat, s[j]? = some true → R j (us.getD j undef) w o) →
      wpAnyG P md ops Q N (fuel + c) (listedOf listed idx s) (Act.puts a dsts us) w := by
    intro c
    induction c with
    | zero =>
      intro s us w o hc hs hu hJ hr
      have := all_of_count s hc
      rw [hs] at this
      subst this
      refine hend us w o hu hJ fun j hj => hr j ?_
      rw [List.getElem?_replicate, if_pos hj]
    | succ c ih =>
      intro s us w o hc hs hu hJ hr
      have hsm := List.all_eq_true.1 hsub s (mem_boolLists _ s hs)
      have hnall : (s.all fun b => b) = false := by
        cases hq : (s.all fun b => b)
        · rfl
        · exfalso
          have : ∀ b ∈ s, b = true := by simpa using hq
          have h2 : s.count false = 0 := List.count_eq_zero.2 fun hm => by have := this _ hm; cases this
          omega
      rw [hnall] at hsm
      simp only [Bool.false_or, Bool.and_eq_true, Bool.not_eq_true', List.isEmpty_eq_false_iff] at hsm
      rw [← Nat.add_assoc]
      refine ⟨fun h => absurd h hsm.1, fun i hi => ?_⟩
      have hc1 := List.all_eq_true.1 hsm.2 i hi
      have hmem : i ∈ idx := by simpa using hc1
      obtain ⟨k, hk⟩ := List.mem_iff_getElem?.1 hmem
      have hkl : k < idx.length := (List.getElem?_eq_some_iff.1 hk).1
      obtain ⟨hun, op, hop, hall⟩ := mem_ready.1 hi
      have hsk : s[k]? = some false := by
        cases hb : s[k]? with
        | none => rw [List.getElem?_eq_none_iff] at hb; omega
        | some b =>
          cases b
          · rfl
          · have := listedOf_true idx s listed k i hk hb
            rw [hun] at this; cases this
      have hdk : ∃ d, dsts[k]? = some d ∧ op.dst = some d := by
        obtain ⟨d, hd⟩ : ∃ d, dsts[k]? = some d := ⟨_, List.getElem?_eq_getElem (by omega)⟩
        refine ⟨d, hd, ?_⟩
        have : (i, d) ∈ idx.zip dsts := List.mem_iff_getElem?.2 ⟨k, by rw [List.getElem?_zip_eq_some]; exact ⟨hk, hd⟩⟩
        have := List.all_eq_true.1 hdst _ this
        simp only [hop, beq_iff_eq] at this
        exact this
      obtain ⟨d, hd, hopd⟩ := hdk
      have hdep : ∀ (j i' : Nat), idx[j]? = some i' → depOn md ops i i' = true → s[j]? = some true := fun j i' hj hdp => by
        simp only [depOn, hop] at hdp
        obtain ⟨e, he, hb⟩ := Array.any_eq_true'.1 hdp
        simp only [Bool.and_eq_true, beq_iff_eq] at hb
        have h1 := hall e he hb.1
        rw [hb.2] at h1
        have hjl : j < idx.length := (List.getElem?_eq_some_iff.1 hj).1
        cases hb2 : s[j]? with
        | none => rw [List.getElem?_eq_none_iff] at hb2; omega
        | some b =>
          cases b
          · have hf := List.all_eq_true.1 hfr i' (List.mem_of_getElem? hj)
            have := listedOf_false idx s listed j i' hni hj hb2 (by simpa using hf)
            rw [h1] at this; cases this
          · rfl
      refine wpOp_mono ?_ (wpOp_one hop (hstep k i op hk hop s us w o hs hu hsk hdep hJ hr))
      rintro a' w' ⟨v, o', rfl, hst, hJ', hRk, hS⟩
      refine ⟨hS, ?_⟩
      rw [hopd, ← puts_set dsts us a k d v hnd hd (by omega), ← listedOf_set idx s listed k i hk (by omega) hsk]
      refine ih (s.set k true) (us.set k v) w' o' (by have := count_set s k hsk; omega) (by simpa using hs) (by simpa using hu) hJ' fun j hj => ?_
      by_cases hjk : k = j
      · subst hjk
        rw [List.getD_eq_getElem?_getD, List.getElem?_set_self (by omega)]
        exact hRk
      · rw [List.getElem?_set_ne hjk] at hj
        rw [List.getD_eq_getElem?_getD, List.getElem?_set_ne hjk, ← List.getD_eq_getElem?_getD]
        exact hR j _ _ _ _ _ (hr j hj) hst
  have h1 := key idx.length (List.replicate idx.length false) us0 w o (by simp) (by simp) hus0 h0 (fun j hj => by rw [List.getElem?_replicate] at hj; split at hj <;> cases hj)
  have h2 : ∀ (is : List Nat) (l : Array Bool) (n : Nat), listedOf l is (List.replicate n false) = l := by
    intro is
    induction is with
    | nil => intros; rfl
    | cons i is ih =>
      intro l n
      cases n with
      | zero => rfl
      | succ n => simp only [List.replicate_succ, listedOf, Bool.false_eq_true, if_false]; exact ih l n
  rw [h2, ha] at h1
  exact h1

/-- The same, the operations written out (opl), each with its own goal. -/
theorem wpAnyG_midl (idx dsts : List Nat) (opl : List Oper) (T : Nat → Prop) (J : List Bool → World → Own → Prop) (R : Nat → Value → World → Own → Prop) {fuel : Nat} {listed : Array Bool} {a : Act} {w : World} {o : Own}
    (hopl : (idx.map fun i => (ops.toList.drop i).head?) = opl.map some)
    (hok : midOk md ops listed idx dsts = true)
    (hR : ∀ k u w o w' o', R k u w o → Step T w o w' o' → R k u w' o')
    (us0 : List Value) (hus0 : us0.length = idx.length) (ha : Act.puts a dsts us0 = a)
    (h0 : J (List.replicate idx.length false) w o)
    (hstep : stepsOf (idx.zip opl) 0 fun k i op => ∀ (s : List Bool) (us : List Value) (w : World) (o : Own), s.length = idx.length → us.length = idx.length → s[k]? = some false →
      (∀ (j i' : Nat), idx[j]? = some i' → depOn md ops i i' = true → s[j]? = some true) → J s w o → (∀ j : Nat, s[j]? = some true → R j (us.getD j undef) w o) →
      wpList P ops (Exit.then (fun a' w' => ∃ v o', a' = (Act.puts a dsts us).put op.dst v ∧ Step T w o w' o' ∧ J (s.set k true) w' o' ∧ R k v w' o' ∧ (w' = w ∨ N i w')) Q) [op] (Act.puts a dsts us) w)
    (hend : ∀ (us : List Value) (w : World) (o : Own), us.length = idx.length → J (List.replicate idx.length true) w o → (∀ j : Nat, j < idx.length → R j (us.getD j undef) w o) →
      wpAnyG P md ops Q N fuel (listedOf listed idx (List.replicate idx.length true)) (Act.puts a dsts us) w) :
    wpAnyG P md ops Q N (fuel + idx.length) listed a w := by
  refine wpAnyG_mid idx dsts T J R hok hR us0 hus0 ha h0 (fun k i op hk hop => ?_) hend
  have h1 := congrArg (·[k]?) hopl
  simp only [List.getElem?_map, hk, Option.map_some] at h1
  have h2 : (ops.toList.drop i).head? = some op := by rw [List.head?_drop]; simpa using hop
  rw [h2] at h1
  have h3 : opl[k]? = some op := by
    cases hq : opl[k]? with
    | none => rw [hq] at h1; cases h1
    | some q => rw [hq] at h1; simp only [Option.map_some, Option.some.injEq] at h1; rw [h1]
  have h4 := stepsOf_at _ _ _ hstep k i op (by rw [List.getElem?_zip_eq_some]; exact ⟨hk, h3⟩)
  rw [Nat.zero_add] at h4
  exact h4
end
end Go.Proofs.YtfgggkheadfiaaaR
