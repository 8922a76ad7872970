/- Regions that draw their order: several operations that may come up in more than one order (calls that make memory, and makes), each with what it leaves; whatever the order, behind all of them all of it holds. -/
import Derived.Test.YtfgggkheadfiaaaRAny
namespace Go.Proofs.YtfgggkheadfiaaaR
open Go Go.RowKit

def Act.puts (a : Act) : List Nat → List Value → Act
  | d :: ds, u :: us => Act.puts (a.put (some d) u) ds us
  | _, _ => a
theorem put_put (a : Act) (d : Nat) (u v : Value) : (a.put (some d) u).put (some d) v = a.put (some d) v := by
  simp [Act.put]
theorem put_swap (a : Act) (d e : Nat) (u v : Value) (h : d ≠ e) : (a.put (some d) u).put (some e) v = (a.put (some e) v).put (some d) u := by
  simp only [Act.put]
  rw [Array.setIfInBounds_comm _ _ h]
theorem puts_put : ∀ (ds : List Nat) (us : List Value) (a : Act) (d : Nat) (v : Value), d ∉ ds → (Act.puts a ds us).put (some d) v = Act.puts (a.put (some d) v) ds us
  | [], _, _, _, _, _ => rfl
  | _ :: _, [], _, _, _, _ => rfl
  | e :: ds, u :: us, a, d, v, h => by
    simp only [List.mem_cons, not_or] at h
    simp only [Act.puts]
    rw [puts_put ds us _ d v h.2, put_swap _ _ _ _ _ (Ne.symm h.1)]
theorem puts_set : ∀ (ds : List Nat) (us : List Value) (a : Act) (k d : Nat) (v : Value), ds.Nodup → ds[k]? = some d → ds.length = us.length → Act.puts a ds (us.set k v) = (Act.puts a ds us).put (some d) v
  | [], _, _, _, _, _, _, h, _ => by simp at h
  | _ :: _, [], _, _, _, _, _, _, h => by simp at h
  | e :: ds, u :: us, a, 0, d, v, hn, h, hl => by
    simp only [List.getElem?_cons_zero, Option.some.injEq] at h
    subst h
    simp only [List.set_cons_zero, Act.puts]
    rw [puts_put ds us _ _ _ (List.nodup_cons.1 hn).1, put_put]
  | e :: ds, u :: us, a, k + 1, d, v, hn, h, hl => by
    simp only [List.set_cons_succ, Act.puts]
    exact puts_set ds us _ k d v (List.nodup_cons.1 hn).2 (by simpa using h) (by simpa using hl)
/-- What has come up: of the operations idx those that s tells, and what had before. -/
def listedOf (l : Array Bool) : List Nat → List Bool → Array Bool
  | i :: is, b :: s => listedOf (if b then l.setIfInBounds i true else l) is s
  | _, _ => l
theorem set_swap (l : Array Bool) (i j : Nat) : (l.setIfInBounds i true).setIfInBounds j true = (l.setIfInBounds j true).setIfInBounds i true := by
  by_cases h : i = j
  · subst h; rfl
  · rw [Array.setIfInBounds_comm _ _ h]
theorem listedOf_comm : ∀ (is : List Nat) (s : List Bool) (l : Array Bool) (i : Nat), listedOf (l.setIfInBounds i true) is s = (listedOf l is s).setIfInBounds i true
  | [], _, _, _ => rfl
  | _ :: _, [], _, _ => rfl
  | j :: is, b :: s, l, i => by
    simp only [listedOf]
    cases b
    · simp only [Bool.false_eq_true, if_false]; exact listedOf_comm is s l i
    · simp only [if_true]; rw [set_swap, listedOf_comm is s _ i]
theorem listedOf_set : ∀ (is : List Nat) (s : List Bool) (l : Array Bool) (k i : Nat), is[k]? = some i → is.length = s.length → s[k]? = some false → listedOf l is (s.set k true) = (listedOf l is s).setIfInBounds i true
  | [], _, _, _, _, h, _, _ => by simp at h
  | _ :: _, [], _, _, _, _, h, _ => by simp at h
  | j :: is, b :: s, l, 0, i, h, hl, hb => by
    simp only [List.getElem?_cons_zero, Option.some.injEq] at h hb
    subst h; subst hb
    simp only [List.set_cons_zero, listedOf, if_true, Bool.false_eq_true, if_false]
    exact listedOf_comm is s l _
  | j :: is, b :: s, l, k + 1, i, h, hl, hb => by
    simp only [List.set_cons_succ, listedOf]
    exact listedOf_set is s _ k i (by simpa using h) (by simpa using hl) (by simpa using hb)
theorem listedOf_true : ∀ (is : List Nat) (s : List Bool) (l : Array Bool) (k i : Nat), is[k]? = some i → s[k]? = some true → (listedOf l is s).getD i true = true
  | [], _, _, _, _, h, _ => by simp at h
  | _ :: _, [], _, _, _, _, h => by simp at h
  | j :: is, b :: s, l, 0, i, h, hb => by
    simp only [List.getElem?_cons_zero, Option.some.injEq] at h hb
    subst h; subst hb
    simp only [listedOf, if_true]
    rw [listedOf_comm]
    by_cases hx : j < (listedOf l is s).size
    · simp [hx]
    · rw [Array.getD_eq_getD_getElem?, Array.getElem?_eq_none (by simpa using hx)]; rfl
  | j :: is, b :: s, l, k + 1, i, h, hb => by
    simp only [listedOf]
    exact listedOf_true is s _ k i (by simpa using h) (by simpa using hb)
theorem listedOf_false : ∀ (is : List Nat) (s : List Bool) (l : Array Bool) (k i : Nat), is.Nodup → is[k]? = some i → s[k]? = some false → l.getD i false = false → (listedOf l is s).getD i false = false
  | [], _, _, _, _, _, h, _, _ => by simp at h
  | _ :: _, [], _, _, _, _, _, h, _ => by simp at h
  | j :: is, b :: s, l, 0, i, hn, h, hb, hf => by
    simp only [List.getElem?_cons_zero, Option.some.injEq] at h hb
    subst h; subst hb
    simp only [listedOf, Bool.false_eq_true, if_false]
    have hni := (List.nodup_cons.1 hn).1
    clear hn
    induction is generalizing s l with
    | nil => exact hf
    | cons q is ih =>
      cases s with
      | nil => exact hf
      | cons c s =>
        simp only [List.mem_cons, not_or] at hni
        simp only [listedOf]
        refine ih s _ ?_ hni.2
        split
        · rw [getD_set_ne false (Ne.symm hni.1)]; exact hf
        · exact hf
  | j :: is, b :: s, l, k + 1, i, hn, h, hb, hf => by
    simp only [listedOf]
    have hn' := List.nodup_cons.1 hn
    have hne : j ≠ i := by
      rintro rfl
      exact hn'.1 (List.mem_of_getElem? (by simpa using h))
    refine listedOf_false is s _ k i hn'.2 (by simpa using h) (by simpa using hb) ?_
    split
    · rw [getD_set_ne false hne]; exact hf
    · exact hf
def boolLists : Nat → List (List Bool)
  | 0 => [[]]
  | n + 1 => (boolLists n).map (true :: ·) ++ (boolLists n).map (false :: ·)
theorem mem_boolLists : ∀ (n : Nat) (s : List Bool), s.length = n → s ∈ boolLists n
  | 0, s, h => by rw [List.eq_nil_of_length_eq_zero h]; simp [boolLists]
  | n + 1, [], h => by simp at h
  | n + 1, b :: s, h => by
    have := mem_boolLists n s (by simpa using h)
    cases b <;> simp [boolLists, this]

section
variable {P : Program} {ops : Array Oper} {Q : Exit → Act → World → Prop} {md : Region.Mode} {S : World → Prop} {need : Nat → Bool}
/-- Till all of idx have come up, what may come up is of idx. -/
def midOk (md : Region.Mode) (ops : Array Oper) (l : Array Bool) (idx : List Nat) (dsts : List Nat) : Bool :=
  (idx.length == dsts.length) && decide idx.Nodup && decide dsts.Nodup && (idx.all fun i => !l.getD i false) && ((idx.zip dsts).all fun x => match ops[x.1]? with | some o => o.dst == some x.2 | none => false) &&
  (boolLists idx.length).all fun s => s.all (fun b => b) || (let rd := Region.ready md ops (listedOf l idx s); !rd.isEmpty && rd.all (fun i => idx.contains i))
def depOn (md : Region.Mode) (ops : Array Oper) (i j : Nat) : Bool := match ops[i]? with
  | some o => o.after.any fun e => Region.binds md e && e.on == j
  | none => false
/-- One operation alone, wherever it stands. -/
theorem wpOp_one {i : Nat} {oi : Oper} {a : Act} {w : World} {K : Act → World → Prop} (hi : ops[i]? = some oi) (h : wpList P ops (Exit.then K Q) [oi] a w) : wpOp P ops Q i K a w := by
  unfold wpOp
  simp only [hi]
  unfold wpList at h
  split
  · rename_i hw
    rw [if_pos hw] at h
    rcases h with h | ⟨ha, a', w', hQ⟩
    · left
      unfold Oper.wp at *
      generalize (execOp a.eval oi).run P w = r at *
      cases r with
      | ok n w' =>
        cases n <;> simp only [Oper.upon] at h ⊢
        case value u => exact h
        case skip => exact h
        case defer d => exact h
        case enter f args =>
          refine Calls.mono h fun e w'' he => ?_
          cases e with
          | returned u => exact he
          | panicked c => exact he
          | outgrown => obtain ⟨a1, w1, h1⟩ := he; exact ⟨a1, w1, h1⟩
        case row row args => exact Rows.mono h fun u w'' he => he
      | halt x w' =>
        cases x <;> simp only [Oper.upon] at h ⊢
        case panic u => exact h
    · exact .inr ⟨ha, a', w', hQ⟩
  · rename_i hw
    rw [if_neg hw] at h
    exact h

theorem count_set : ∀ (s : List Bool) (k : Nat), s[k]? = some false → (s.set k true).count false + 1 = s.count false
  | [], _, h => by simp at h
  | b :: s, 0, h => by
    simp only [List.getElem?_cons_zero, Option.some.injEq] at h
    subst h; simp
  | b :: s, k + 1, h => by
    have := count_set s k (by simpa using h)
    simp only [List.set_cons_succ, List.count_cons]
    omega
theorem all_of_count : ∀ (s : List Bool), s.count false = 0 → s = List.replicate s.length true
  | [], _ => rfl
  | b :: s, h => by
    simp only [List.count_cons] at h
    have := all_of_count s (by omega)
    cases b
    · simp at h
    · simp only [List.length_cons, List.replicate_succ]; rw [← this]

theorem wpAnyN_mid (idx dsts : List Nat) (T : Nat → Prop) (J : List Bool → World → Own → Prop) (R : Nat → Value → World → Own → Prop) {fuel : Nat} {listed : Array Bool} {a : Act} {w : World} {o : Own}
    (hok : midOk md ops listed idx dsts = true)
    (hR : ∀ k u w o w' o', R k u w o → Step T w o w' o' → R k u w' o')
    (us0 : List Value) (hus0 : us0.length = idx.length) (ha : Act.puts a dsts us0 = a)
    (h0 : J (List.replicate idx.length false) w o)
    (hstep : ∀ (k i : Nat) (op : Oper), idx[k]? = some i → ops[i]? = some op → ∀ (s : List Bool) (us : List Value) (w : World) (o : Own), s.length = idx.length → us.length = idx.length → s[k]? = some false →
      (∀ (j i' : Nat), idx[j]? = some i' → depOn md ops i i' = true → s[j]? = some true) → J s w o → (∀ j : Nat, s[j]? = some true → R j (us.getD j undef) w o) →
      wpList P ops (Exit.then (fun a' w' => ∃ v o', a' = (Act.puts a dsts us).put op.dst v ∧ Step T w o w' o' ∧ J (s.set k true) w' o' ∧ R k v w' o' ∧ (need i = true → S w')) Q) [op] (Act.puts a dsts us) w)
    (hend : ∀ (us : List Value) (w : World) (o : Own), us.length = idx.length → J (List.replicate idx.length true) w o → (∀ j : Nat, j < idx.length → R j (us.getD j undef) w o) →
      wpAnyN P md ops Q S need fuel (listedOf listed idx (List.replicate idx.length true)) (Act.puts a dsts us) w) :
    wpAnyN P md ops Q S need (fuel + idx.length) listed a w := by
  simp only [midOk, Bool.and_eq_true, beq_iff_eq, decide_eq_true_eq] at hok
  obtain ⟨⟨⟨⟨⟨hl, hni⟩, hnd⟩, hfr⟩, hdst⟩, hsub⟩ := hok
  have key : ∀ (c : Nat) (s : List Bool) (us : List Value) (w : World) (o : Own), s.count false = c → s.length = idx.length → us.length = idx.length → J s w o → (∀ j : Nat, s[j]? = some true → R j (us.getD j undef) w o) →
      wpAnyN P md ops Q S need (fuel + c) (listedOf listed idx s) (Act.puts a dsts us) w := by
    intro c
    induction c with
    | zero =>
      intro s us w o hc hs hu hJ hr
      have := all_of_count s hc
      rw [hs] at this
      subst this
      refine hend us w o hu hJ fun j hj => hr j ?_
      rw [List.getElem?_replicate, if_pos hj]
    | succ c ih =>
      intro s us w o hc hs hu hJ hr
      have hsm := List.all_eq_true.1 hsub s (mem_boolLists _ s hs)
      have hnall : (s.all fun b => b) = false := by
        cases hq : (s.all fun b => b)
        · rfl
        · exfalso
          have : ∀ b ∈ s, b = true := by simpa using hq
          have h2 : s.count false = 0 := List.count_eq_zero.2 fun hm => by have := this _ hm; cases this
          omega
      rw [hnall] at hsm
      simp only [Bool.false_or, Bool.and_eq_true, Bool.not_eq_true', List.isEmpty_eq_false_iff] at hsm
      rw [← Nat.add_assoc]
      refine ⟨fun h => absurd h hsm.1, fun i hi => ?_⟩
      have hc1 := List.all_eq_true.1 hsm.2 i hi
      have hmem : i ∈ idx := by simpa using hc1
      obtain ⟨k, hk⟩ := List.mem_iff_getElem?.1 hmem
      have hkl : k < idx.length := (List.getElem?_eq_some_iff.1 hk).1
      obtain ⟨hun, op, hop, hall⟩ := mem_ready.1 hi
      have hsk : s[k]? = some false := by
        cases hb : s[k]? with
        | none => rw [List.getElem?_eq_none_iff] at hb; omega
        | some b =>
          cases b
          · rfl
          · have := listedOf_true idx s listed k i hk hb
            rw [hun] at this; cases this
      have hdk : ∃ d, dsts[k]? = some d ∧ op.dst = some d := by
        obtain ⟨d, hd⟩ : ∃ d, dsts[k]? = some d := ⟨_, List.getElem?_eq_getElem (by omega)⟩
        refine ⟨d, hd, ?_⟩
        have : (i, d) ∈ idx.zip dsts := List.mem_iff_getElem?.2 ⟨k, by rw [List.getElem?_zip_eq_some]; exact ⟨hk, hd⟩⟩
        have := List.all_eq_true.1 hdst _ this
        simp only [hop, beq_iff_eq] at this
        exact this
      obtain ⟨d, hd, hopd⟩ := hdk
      have hdep : ∀ (j i' : Nat), idx[j]? = some i' → depOn md ops i i' = true → s[j]? = some true := fun j i' hj hdp => by
        simp only [depOn, hop] at hdp
        obtain ⟨e, he, hb⟩ := Array.any_eq_true'.1 hdp
        simp only [Bool.and_eq_true, beq_iff_eq] at hb
        have h1 := hall e he hb.1
        rw [hb.2] at h1
        have hjl : j < idx.length := (List.getElem?_eq_some_iff.1 hj).1
        cases hb2 : s[j]? with
        | none => rw [List.getElem?_eq_none_iff] at hb2; omega
        | some b =>
          cases b
          · have hf := List.all_eq_true.1 hfr i' (List.mem_of_getElem? hj)
            have := listedOf_false idx s listed j i' hni hj hb2 (by simpa using hf)
            rw [h1] at this; cases this
          · rfl
      refine wpOp_mono ?_ (wpOp_one hop (hstep k i op hk hop s us w o hs hu hsk hdep hJ hr))
      rintro a' w' ⟨v, o', rfl, hst, hJ', hRk, hS⟩
      refine ⟨hS, ?_⟩
      rw [hopd, ← puts_set dsts us a k d v hnd hd (by omega), ← listedOf_set idx s listed k i hk (by omega) hsk]
      refine ih (s.set k true) (us.set k v) w' o' (by have := count_set s k hsk; omega) (by simpa using hs) (by simpa using hu) hJ' fun j hj => ?_
      by_cases hjk : k = j
      · subst hjk
        rw [List.getD_eq_getElem?_getD, List.getElem?_set_self (by omega)]
        exact hRk
      · rw [List.getElem?_set_ne hjk] at hj
        rw [List.getD_eq_getElem?_getD, List.getElem?_set_ne hjk, ← List.getD_eq_getElem?_getD]
        exact hR j _ _ _ _ _ (hr j hj) hst
  have h1 := key idx.length (List.replicate idx.length false) us0 w o (by simp) (by simp) hus0 h0 (fun j hj => by rw [List.getElem?_replicate] at hj; split at hj <;> cases hj)
  have h2 : ∀ (is : List Nat) (l : Array Bool) (n : Nat), listedOf l is (List.replicate n false) = l := by
    intro is
    induction is with
    | nil => intros; rfl
    | cons i is ih =>
      intro l n
      cases n with
      | zero => rfl
      | succ n => simp only [List.replicate_succ, listedOf, Bool.false_eq_true, if_false]; exact ih l n
  rw [h2, ha] at h1
  exact h1

/-- F of each pair of a list, told one by one. -/
def stepsOf : List (Nat × Oper) → Nat → (Nat → Nat → Oper → Prop) → Prop
  | [], _, _ => True
  | (i, op) :: r, k, F => F k i op ∧ stepsOf r (k + 1) F
theorem stepsOf_at : ∀ (l : List (Nat × Oper)) (k0 : Nat) (F : Nat → Nat → Oper → Prop), stepsOf l k0 F → ∀ (k i : Nat) (op : Oper), l[k]? = some (i, op) → F (k0 + k) i op
  | [], _, _, _, _, _, _, h => by simp at h
  | (j, q) :: r, k0, F, h, 0, i, op, hk => by
    simp only [List.getElem?_cons_zero, Option.some.injEq, Prod.mk.injEq] at hk
    obtain ⟨rfl, rfl⟩ := hk
    exact h.1
  | (j, q) :: r, k0, F, h, k + 1, i, op, hk => by
    have := stepsOf_at r (k0 + 1) F h.2 k i op (by simpa using hk)
    rwa [show k0 + 1 + k = k0 + (k + 1) from by omega] at this

/-- The same, the operations written out (opl), each with its own goal. -/
theorem wpAnyN_midl (idx dsts : List Nat) (opl : List Oper) (T : Nat → Prop) (J : List Bool → World → Own → Prop) (R : Nat → Value → World → Own → Prop) {fuel : Nat} {listed : Array Bool} {a : Act} {w : World} {o : Own}
    (hopl : (idx.map fun i => (ops.toList.drop i).head?) = opl.map some)
    (hok : midOk md ops listed idx dsts = true)
    (hR : ∀ k u w o w' o', R k u w o → Step T w o w' o' → R k u w' o')
    (us0 : List Value) (hus0 : us0.length = idx.length) (ha : Act.puts a dsts us0 = a)
    (h0 : J (List.replicate idx.length false) w o)
    (hstep : stepsOf (idx.zip opl) 0 fun k i op => ∀ (s : List Bool) (us : List Value) (w : World) (o : Own), s.length = idx.length → us.length = idx.length → s[k]? = some false →
      (∀ (j i' : Nat), idx[j]? = some i' → depOn md ops i i' = true → s[j]? = some true) → J s w o → (∀ j : Nat, s[j]? = some true → R j (us.getD j undef) w o) →
      wpList P ops (Exit.then (fun a' w' => ∃ v o', a' = (Act.puts a dsts us).put op.dst v ∧ Step T w o w' o' ∧ J (s.set k true) w' o' ∧ R k v w' o' ∧ (need i = true → S w')) Q) [op] (Act.puts a dsts us) w)
    (hend : ∀ (us : List Value) (w : World) (o : Own), us.length = idx.length → J (List.replicate idx.length true) w o → (∀ j : Nat, j < idx.length → R j (us.getD j undef) w o) →
      wpAnyN P md ops Q S need fuel (listedOf listed idx (List.replicate idx.length true)) (Act.puts a dsts us) w) :
    wpAnyN P md ops Q S need (fuel + idx.length) listed a w := by
  refine wpAnyN_mid idx dsts T J R hok hR us0 hus0 ha h0 (fun k i op hk hop => ?_) hend
  have h1 := congrArg (·[k]?) hopl
  simp only [List.getElem?_map, hk, Option.map_some] at h1
  have h2 : (ops.toList.drop i).head? = some op := by rw [List.head?_drop]; simpa using hop
  rw [h2] at h1
  have h3 : opl[k]? = some op := by
    cases hq : opl[k]? with
    | none => rw [hq] at h1; cases h1
    | some q => rw [hq] at h1; simp only [Option.map_some, Option.some.injEq] at h1; rw [h1]
  have h4 := stepsOf_at _ _ _ hstep k i op (by rw [List.getElem?_zip_eq_some]; exact ⟨hk, h3⟩)
  rw [Nat.zero_add] at h4
  exact h4
end
end Go.Proofs.YtfgggkheadfiaaaR
