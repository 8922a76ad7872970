/- Regions that draw their order, as in Mid, where only such sets of operations are looked at as hold, with each operation, what it waits for. -/
import Derived.Test.YtfgggkheadfiaaaRMid
namespace Go.Proofs.YtfgggkheadfiaaaR
open Go Go.RowKit

section
variable {P : Program} {ops : Array Oper} {Q : Exit → Act → World → Prop} {md : Region.Mode} {S : World → Prop} {need : Nat → Bool}
/-- With each operation that has come up, those that it waits for have. -/
def Shut (md : Region.Mode) (ops : Array Oper) (idx : List Nat) (s : List Bool) : Prop := ∀ (k i : Nat), s[k]? = some true → idx[k]? = some i → ∀ (j i' : Nat), idx[j]? = some i' → depOn md ops i i' = true → s[j]? = some true
def shutB (md : Region.Mode) (ops : Array Oper) (idx : List Nat) (s : List Bool) : Bool :=
  idx.zipIdx.all fun x => idx.zipIdx.all fun y => !(s.getD x.2 false) || !(depOn md ops x.1 y.1) || s.getD y.2 false
theorem Shut.shutB {md : Region.Mode} {ops : Array Oper} {idx : List Nat} {s : List Bool} (h : Shut md ops idx s) : YtfgggkheadfiaaaR.shutB md ops idx s = true := by
  unfold YtfgggkheadfiaaaR.shutB
  rw [List.all_eq_true]
  rintro ⟨i, k⟩ hx
  rw [List.all_eq_true]
  rintro ⟨i', j⟩ hy
  have hx' := List.mem_zipIdx_iff_getElem?.1 hx
  have hy' := List.mem_zipIdx_iff_getElem?.1 hy
  simp only [Bool.or_eq_true, Bool.not_eq_true']
  cases hsk : s.getD k false with
  | false => exact .inl (.inl rfl)
  | true =>
    cases hd : depOn md ops i i' with
    | false => exact .inl (.inr rfl)
    | true =>
      right
      have h1 : s[k]? = some true := by
        rw [List.getD_eq_getElem?_getD] at hsk
        cases hq : s[k]? with
        | none => rw [hq] at hsk; cases hsk
        | some b => rw [hq] at hsk; simp only [Option.getD_some] at hsk; rw [hsk]
      have h2 := h k i h1 hx' j i' hy' hd
      rw [List.getD_eq_getElem?_getD, h2]; rfl
theorem Shut.none (md : Region.Mode) (ops : Array Oper) (idx : List Nat) : Shut md ops idx (List.replicate idx.length false) := by
  intro k i h
  rw [List.getElem?_replicate] at h
  split at h <;> cases h
theorem Shut.set {md : Region.Mode} {ops : Array Oper} {idx : List Nat} {s : List Bool} {k i : Nat} (h : Shut md ops idx s) (hk : idx[k]? = some i) (hsk : s[k]? = some false)
    (hdep : ∀ (j i' : Nat), idx[j]? = some i' → depOn md ops i i' = true → s[j]? = some true) (_hn : idx.Nodup) : Shut md ops idx (s.set k true) := by
  have hkl : k < s.length := (List.getElem?_eq_some_iff.1 hsk).1
  intro q iq hq hiq j i' hj hd
  by_cases hjk : k = j
  · subst hjk; rw [List.getElem?_set_self hkl]
  rw [List.getElem?_set_ne hjk]
  by_cases hqk : k = q
  · subst hqk
    rw [hk] at hiq
    simp only [Option.some.injEq] at hiq
    subst hiq
    exact hdep j i' hj hd
  · rw [List.getElem?_set_ne hqk] at hq
    exact h q iq hq hiq j i' hj hd
def midOkC (md : Region.Mode) (ops : Array Oper) (l : Array Bool) (idx : List Nat) (dsts : List Nat) : Bool :=
  (idx.length == dsts.length) && decide idx.Nodup && decide dsts.Nodup && (idx.all fun i => !l.getD i false) && ((idx.zip dsts).all fun x => match ops[x.1]? with | some o => o.dst == some x.2 | none => false) &&
  (boolLists idx.length).all fun s => !(shutB md ops idx s) || (s.all (fun b => b) || (let rd := Region.ready md ops (listedOf l idx s); !rd.isEmpty && rd.all (fun i => idx.contains i)))
theorem wpAnyN_midC (idx dsts : List Nat) (T : Nat → Prop) (J : List Bool → World → Own → Prop) (R : Nat → Value → World → Own → Prop) {fuel : Nat} {listed : Array Bool} {a : Act} {w : World} {o : Own}
    (hok : midOkC md ops listed idx dsts = true)
    (hR : ∀ k u w o w' o', R k u w o → Step T w o w' o' → R k u w' o')
    (us0 : List Value) (hus0 : us0.length = idx.length) (ha : Act.puts a dsts us0 = a)
    (h0 : J (List.replicate idx.length false) w o)
    (hstep : ∀ (k i : Nat) (op : Oper), idx[k]? = some i → ops[i]? = some op → ∀ (s : List Bool) (us : List Value) (w : World) (o : Own), s.length = idx.length → us.length = idx.length → s[k]? = some false →
      (∀ (j i' : Nat), idx[j]? = some i' → depOn md ops i i' = true → s[j]? = some true) → J s w o → (∀ j : Nat, s[j]? = some true → R j (us.getD j undef) w o) →
      wpList P ops (Exit.then (fun a' w' => ∃ v o', a' = (Act.puts a dsts us).put op.dst v ∧ Step T w o w' o' ∧ J (s.set k true) w' o' ∧ R k v w' o' ∧ (need i = true → S w')) Q) [op] (Act.puts a dsts us) w)
    (hend : ∀ (us : List Value) (w : World) (o : Own), us.length = idx.length → J (List.replicate idx.length true) w o → (∀ j : Nat, j < idx.length → R j (us.getD j undef) w o) →
      wpAnyN P md ops Q S need fuel (listedOf listed idx (List.replicate idx.length true)) (Act.puts a dsts us) w) :
    wpAnyN P md ops Q S need (fuel + idx.length) listed a w := by
  simp only [midOkC, Bool.and_eq_true, beq_iff_eq, decide_eq_true_eq] at hok
  obtain ⟨⟨⟨⟨⟨hl, hni⟩, hnd⟩, hfr⟩, hdst⟩, hsub⟩ := hok
  have key : ∀ (c : Nat) (s : List Bool) (us : List Value) (w : World) (o : Own), s.count false = c → s.length = idx.length → us.length = idx.length → Shut md ops idx s → J s w o → (∀ j : Nat, s[j]? = some true → R j (us.getD j undef) w o) →
      wpAnyN P md ops Q S need (fuel + c) (listedOf listed idx s) (Act.puts a dsts us) w := by
    intro c
    induction c with
    | zero =>
      intro s us w o hc hs hu hsh hJ hr
      have := all_of_count s hc
      rw [hs] at this
      subst this
      refine hend us w o hu hJ fun j hj => hr j ?_
      rw [List.getElem?_replicate, if_pos hj]
    | succ c ih =>
      intro s us w o hc hs hu hsh hJ hr
      have hsm := List.all_eq_true.1 hsub s (mem_boolLists _ s hs)
      have hnall : (s.all fun b => b) = false := by
        cases hq : (s.all fun b => b)
        · rfl
        · exfalso
          have : ∀ b ∈ s, b = true := by simpa using hq
          have h2 : s.count false = 0 := List.count_eq_zero.2 fun hm => by have := this _ hm; cases this
          omega
      rw [hnall, hsh.shutB] at hsm
      simp only [Bool.not_true, Bool.false_or, Bool.and_eq_true, Bool.not_eq_true', List.isEmpty_eq_false_iff] at hsm
      rw [← Nat.add_assoc]
      refine ⟨fun h => absurd h hsm.1, fun i hi => ?_⟩
      have hc1 := List.all_eq_true.1 hsm.2 i hi
      have hmem : i ∈ idx := by simpa using hc1
      obtain ⟨k, hk⟩ := List.mem_iff_getElem?.1 hmem
      have hkl : k < idx.length := (List.getElem?_eq_some_iff.1 hk).1
      obtain ⟨hun, op, hop, hall⟩ := mem_ready.1 hi
      have hsk : s[k]? = some false := by
        cases hb : s[k]? with
        | none => rw [List.getElem?_eq_none_iff] at hb; omega
        | some b =>
          cases b
          · rfl
          · have := listedOf_true idx s listed k i hk hb
            rw [hun] at this; cases this
      have hdk : ∃ d, dsts[k]? = some d ∧ op.dst = some d := by
        obtain ⟨d, hd⟩ : ∃ d, dsts[k]? = some d := ⟨_, List.getElem?_eq_getElem (by omega)⟩
        refine ⟨d, hd, ?_⟩
        have : (i, d) ∈ idx.zip dsts := List.mem_iff_getElem?.2 ⟨k, by rw [List.getElem?_zip_eq_some]; exact ⟨hk, hd⟩⟩
        have := List.all_eq_true.1 hdst _ this
        simp only [hop, beq_iff_eq] at this
        exact this
      obtain ⟨d, hd, hopd⟩ := hdk
      have hdep : ∀ (j i' : Nat), idx[j]? = some i' → depOn md ops i i' = true → s[j]? = some true := fun j i' hj hdp => by
        simp only [depOn, hop] at hdp
        obtain ⟨e, he, hb⟩ := Array.any_eq_true'.1 hdp
        simp only [Bool.and_eq_true, beq_iff_eq] at hb
        have h1 := hall e he hb.1
        rw [hb.2] at h1
        have hjl : j < idx.length := (List.getElem?_eq_some_iff.1 hj).1
        cases hb2 : s[j]? with
        | none => rw [List.getElem?_eq_none_iff] at hb2; omega
        | some b =>
          cases b
          · have hf := List.all_eq_true.1 hfr i' (List.mem_of_getElem? hj)
            have := listedOf_false idx s listed j i' hni hj hb2 (by simpa using hf)
            rw [h1] at this; cases this
          · rfl
      refine wpOp_mono ?_ (wpOp_one hop (hstep k i op hk hop s us w o hs hu hsk hdep hJ hr))
      rintro a' w' ⟨v, o', rfl, hst, hJ', hRk, hS⟩
      refine ⟨hS, ?_⟩
      rw [hopd, ← puts_set dsts us a k d v hnd hd (by omega), ← listedOf_set idx s listed k i hk (by omega) hsk]
      refine ih (s.set k true) (us.set k v) w' o' (by have := count_set s k hsk; omega) (by simpa using hs) (by simpa using hu) (hsh.set hk hsk hdep hni) hJ' fun j hj => ?_
      by_cases hjk : k = j
      · subst hjk
        rw [List.getD_eq_getElem?_getD, List.getElem?_set_self (by omega)]
        exact hRk
      · rw [List.getElem?_set_ne hjk] at hj
        rw [List.getD_eq_getElem?_getD, List.getElem?_set_ne hjk, ← List.getD_eq_getElem?_getD]
        exact hR j _ _ _ _ _ (hr j hj) hst
  have h1 := key idx.length (List.replicate idx.length false) us0 w o (by simp) (by simp) hus0 (Shut.none md ops idx) h0 (fun j hj => by rw [List.getElem?_replicate] at hj; split at hj <;> cases hj)
  have h2 : ∀ (is : List Nat) (l : Array Bool) (n : Nat), listedOf l is (List.replicate n false) = l := by
    intro is
    induction is with
    | nil => intros; rfl
    | cons i is ih =>
      intro l n
      cases n with
      | zero => rfl
      | succ n => simp only [List.replicate_succ, listedOf, Bool.false_eq_true, if_false]; exact ih l n
  rw [h2, ha] at h1
  exact h1

/-- The same, the operations written out (opl), each with its own goal. -/
theorem wpAnyN_midlC (idx dsts : List Nat) (opl : List Oper) (T : Nat → Prop) (J : List Bool → World → Own → Prop) (R : Nat → Value → World → Own → Prop) {fuel : Nat} {listed : Array Bool} {a : Act} {w : World} {o : Own}
    (hopl : (idx.map fun i => (ops.toList.drop i).head?) = opl.map some)
    (hok : midOkC md ops listed idx dsts = true)
    (hR : ∀ k u w o w' o', R k u w o → Step T w o w' o' → R k u w' o')
    (us0 : List Value) (hus0 : us0.length = idx.length) (ha : Act.puts a dsts us0 = a)
    (h0 : J (List.replicate idx.length false) w o)
    (hstep : stepsOf (idx.zip opl) 0 fun k i op => ∀ (s : List Bool) (us : List Value) (w : World) (o : Own), s.length = idx.length → us.length = idx.length → s[k]? = some false →
      (∀ (j i' : Nat), idx[j]? = some i' → depOn md ops i i' = true → s[j]? = some true) → J s w o → (∀ j : Nat, s[j]? = some true → R j (us.getD j undef) w o) →
      wpList P ops (Exit.then (fun a' w' => ∃ v o', a' = (Act.puts a dsts us).put op.dst v ∧ Step T w o w' o' ∧ J (s.set k true) w' o' ∧ R k v w' o' ∧ (need i = true → S w')) Q) [op] (Act.puts a dsts us) w)
    (hend : ∀ (us : List Value) (w : World) (o : Own), us.length = idx.length → J (List.replicate idx.length true) w o → (∀ j : Nat, j < idx.length → R j (us.getD j undef) w o) →
      wpAnyN P md ops Q S need fuel (listedOf listed idx (List.replicate idx.length true)) (Act.puts a dsts us) w) :
    wpAnyN P md ops Q S need (fuel + idx.length) listed a w := by
  refine wpAnyN_midC idx dsts T J R hok hR us0 hus0 ha h0 (fun k i op hk hop => ?_) hend
  have h1 := congrArg (·[k]?) hopl
  simp only [List.getElem?_map, hk, Option.map_some] at h1
  have h2 : (ops.toList.drop i).head? = some op := by rw [List.head?_drop]; simpa using hop
  rw [h2] at h1
  have h3 : opl[k]? = some op := by
    cases hq : opl[k]? with
    | none => rw [hq] at h1; cases h1
    | some q => rw [hq] at h1; simp only [Option.map_some, Option.some.injEq] at h1; rw [h1]
  have h4 := stepsOf_at _ _ _ hstep k i op (by rw [List.getElem?_zip_eq_some]; exact ⟨hk, h3⟩)
  rw [Nat.zero_add] at h4
  exact h4
end
end Go.Proofs.YtfgggkheadfiaaaR
