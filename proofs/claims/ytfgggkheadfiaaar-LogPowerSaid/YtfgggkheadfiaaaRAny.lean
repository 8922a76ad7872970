/- Regions that draw their order: loads may be taken first although the region's last stores hit what they load, as those stores wait for them. After Derived/OrdersHeld.lean's theorems, with a condition S that is asked only behind the operations that 'need' names. -/
import Derived.Test.YtfgggkheadfiaaaRBase
import Derived.Deep.RegionHeld3
namespace Go.Proofs.YtfgggkheadfiaaaR
open Go Go.RowKit

section
variable {P : Program} {ops : Array Oper} {Q : Exit → Act → World → Prop} {md : Region.Mode} {S : World → Prop} {need : Nat → Bool}

def wpAnyN (P : Program) (md : Region.Mode) (ops : Array Oper) (Q : Exit → Act → World → Prop) (S : World → Prop) (need : Nat → Bool) : Nat → Array Bool → Act → World → Prop
  | 0, listed, a, w => Region.ready md ops listed = [] ∧ Q .normal a w
  | fuel + 1, listed, a, w =>
    (Region.ready md ops listed = [] → Q .normal a w) ∧
    ∀ i ∈ Region.ready md ops listed, wpOp P ops Q i (fun a' w' => (need i = true → S w') ∧ wpAnyN P md ops Q S need fuel (listed.setIfInBounds i true) a' w') a w

theorem wpAny_of_need : ∀ (fuel : Nat) (listed : Array Bool) (a : Act) (w : World), wpAnyN P md ops Q S need fuel listed a w → wpAny P md ops Q fuel listed a w
  | 0, _, _, _, h => h
  | fuel + 1, _, _, _, h => ⟨h.1, fun i hi => wpOp_mono (fun a' w' h' => wpAny_of_need fuel _ a' w' h'.2) (h.2 i hi)⟩

/-- Each operation behind which S is not asked waits for number i. -/
def needOk (md : Region.Mode) (ops : Array Oper) (need : Nat → Bool) (i : Nat) : Bool :=
  (List.range ops.size).all fun j => need j || match ops[j]? with
    | some oj => oj.after.any (fun e => Region.binds md e && e.on == i)
    | none => true

theorem needOk_spec {i : Nat} (h : needOk md ops need i = true) (j : Nat) (oj : Oper) (hj : ops[j]? = some oj) (hno : ∀ e ∈ oj.after, Region.binds md e = true → e.on ≠ i) : need j = true := by
  simp only [needOk, List.all_eq_true, List.mem_range] at h
  have h1 := h j (Array.getElem?_eq_some_iff.1 hj).1
  simp only [hj, Bool.or_eq_true] at h1
  rcases h1 with h1 | h1
  · exact h1
  · obtain ⟨e, he, hb⟩ := Array.any_eq_true'.1 h1
    simp only [Bool.and_eq_true, beq_iff_eq] at hb
    exact absurd hb.2 (hno e he hb.1)

theorem wpAnyN_first {i : Nat} {oi : Oper} {v : Value} (hi : ops[i]? = some oi) (hsel : ∀ (j : Nat) (o : Oper) cs b, ops[j]? = some o → o.op ≠ .select cs b)
    (hQ : ∀ c a w, Q (.panic c) (a.put oi.dst v) w → Q (.panic c) a w) (hn : needOk md ops need i = true) :
    ∀ (fuel : Nat) (listed : Array Bool) (a : Act) (w : World),
      (∀ j oj, ops[j]? = some oj → j ≠ i → listed.getD j true = false → (∀ e ∈ oj.after, Region.binds md e = true → e.on ≠ i) → oi.apart ops oj = true) →
      i ∈ Region.ready md ops listed → YieldsIf P ops S oi v a → S w →
      wpAnyN P md ops Q S need fuel (listed.setIfInBounds i true) (a.put oi.dst v) w → wpAnyN P md ops Q S need (fuel + 1) listed a w := by
  intro fuel
  induction fuel with
  | zero =>
    intro listed a w _ hr hy hS H
    refine ⟨fun h => (by rw [h] at hr; cases hr), fun j hj => ?_⟩
    by_cases hji : j = i
    · subst hji; exact hy.wpOp hi hS ⟨fun _ => hS, H⟩
    · have := ready_mono hj hji
      rw [H.1] at this
      cases this
  | succ fuel ih =>
    intro listed a w hfree hr hy hS H
    refine ⟨fun h => (by rw [h] at hr; cases hr), fun j hj => ?_⟩
    by_cases hji : j = i
    · subst hji; exact hy.wpOp hi hS ⟨fun _ => hS, H⟩
    · have h1 := H.2 j (ready_mono hj hji)
      obtain ⟨hjun, oj, hoj, hall⟩ := mem_ready.1 hj
      have hnot : ∀ e ∈ oj.after, Region.binds md e = true → e.on ≠ i := fun e he hb heq => by
        have h1 := hall e he hb
        have h0 := (mem_ready.1 hr).1
        rw [heq] at h1
        rcases Nat.lt_or_ge i listed.size with h' | h'
        · simp [h'] at h0 h1; rw [h0] at h1; cases h1
        · simp [Array.getElem?_eq_none h'] at h1
      have hneed := needOk_spec hn j oj hoj hnot
      have h2 := wpOp_putIf hoj (hfree j oj hoj hji hjun hnot) (fun cs b => hsel i oi cs b hi) (fun cs b => hsel j oj cs b hoj) hQ hy h1
      have hfree' : ∀ k ok, ops[k]? = some ok → k ≠ i → (listed.setIfInBounds j true).getD k true = false →
          (∀ e ∈ ok.after, Region.binds md e = true → e.on ≠ i) → oi.apart ops ok = true := fun k ok hk hki hun hno => by
        refine hfree k ok hk hki ?_ hno
        by_cases hjk : j = k
        · subst hjk; exact hjun
        · rw [getD_set_ne true hjk] at hun; exact hun
      refine wpOp_mono (fun a' w' h3 => ⟨fun _ => h3.2.1 hneed, ih (listed.setIfInBounds j true) a' w' hfree' (ready_mono hr (Ne.symm hji)) h3.1 (h3.2.1 hneed) ?_⟩) h2
      rw [Array.setIfInBounds_comm _ _ hji]
      exact h3.2.2

theorem at_of_drop {i : Nat} {oi : Oper} (h : (ops.toList.drop i).head? = some oi) : ops[i]? = some oi := by
  rw [List.head?_drop] at h
  simpa using h

/-- Take number i first. -/
theorem wpAnyN_take {i : Nat} {oi : Oper} {v : Value} {fuel : Nat} {listed : Array Bool} {a : Act} {w : World} (hi : (ops.toList.drop i).head? = some oi)
    (hs : Region.noSelect ops = true) (hf : Region.free md ops listed i = true) (hr : (Region.ready md ops listed).contains i = true) (hn : needOk md ops need i = true)
    (hQ : ∀ c a w, Q (.panic c) (a.put oi.dst v) w → Q (.panic c) a w) (hy : YieldsIf P ops S oi v a) (hS : S w)
    (h : wpAnyN P md ops Q S need fuel (listed.setIfInBounds i true) (a.put oi.dst v) w) : wpAnyN P md ops Q S need (fuel + 1) listed a w :=
  wpAnyN_first (at_of_drop hi) (Region.noSelect_spec hs) hQ hn fuel listed a w (Region.free_spec (at_of_drop hi) hf) (by simpa using hr) hy hS h

/-- One operation alone may come up: it is walked as the only one of a plain region. -/
theorem wpAnyN_one {i : Nat} {oi : Oper} {fuel : Nat} {listed : Array Bool} {a : Act} {w : World} (hi : (ops.toList.drop i).head? = some oi) (hr : Region.ready md ops listed = [i])
    (h : wpList P ops (Exit.then (fun a' w' => (need i = true → S w') ∧ wpAnyN P md ops Q S need fuel (listed.setIfInBounds i true) a' w') Q) [oi] a w) : wpAnyN P md ops Q S need (fuel + 1) listed a w := by
  replace hi := at_of_drop hi
  refine ⟨fun h0 => (by rw [hr] at h0; cases h0), fun j hj => ?_⟩
  rw [hr] at hj
  simp only [List.mem_singleton] at hj
  subst hj
  unfold wpOp
  simp only [hi]
  unfold wpList at h
  split
  · rename_i hw
    rw [if_pos hw] at h
    rcases h with h | ⟨ha, a', w', hQ⟩
    · left
      have hpost : ∀ (e : Exit) (a : Act) (w : World), e ≠ .normal → Exit.then (fun a' w' => (need j = true → S w') ∧ wpAnyN P md ops Q S need fuel (listed.setIfInBounds j true) a' w') Q e a w → Q e a w := by
        intro e a w hne h; cases e <;> first | exact absurd rfl hne | exact h
      unfold Oper.wp at *
      generalize (execOp a.eval oi).run P w = r at *
      cases r with
      | ok n w' =>
        cases n <;> simp only [Oper.upon] at h ⊢
        case value u => exact h
        case skip => exact h
        case defer d => exact h
        case enter f args =>
          refine Calls.mono h fun e w'' he => ?_
          cases e with
          | returned u => exact he
          | panicked c => exact he
          | outgrown => obtain ⟨a1, w1, h1⟩ := he; exact ⟨a1, w1, h1⟩
        case row row args => exact Rows.mono h fun u w'' he => he
      | halt x w' =>
        cases x <;> simp only [Oper.upon] at h ⊢
        case panic u => exact h
    · exact .inr ⟨ha, a', w', hQ⟩
  · rename_i hw
    rw [if_neg hw] at h
    exact h

theorem wpAnyN_done {listed : Array Bool} {a : Act} {w : World} (hr : Region.ready md ops listed = []) (h : Q .normal a w) : ∀ fuel, wpAnyN P md ops Q S need fuel listed a w
  | 0 => ⟨hr, h⟩
  | _ + 1 => ⟨fun _ => h, by rw [hr]; simp⟩

/-- The beginning. -/
theorem wp_region_need {id : Nat} {a : Act} {w : World} (S : World → Prop) (need : Nat → Bool) (hm : P.follows .mixedOrders = true) (hS : S w.drew)
    (h : S w.drew → wpAnyN P .any ops Q S need ops.size (Array.replicate ops.size false) a w.drew) : (Code.region id ops true).wp P Q a w :=
  wp_region_any hm (wpAny_of_need _ _ _ _ (h hS))

/-! ### One operation, its run told outright (so that no 'simp' opens it) -/
theorem yields_run {op : Oper} {v : Value} {a : Act} (hg : op.guard = none) (h : ∀ w, S w → (execOp a.eval op).run P w = .ok (.value v) w) : YieldsIf P ops S op v a :=
  .inl ⟨by simp [Region.wanted, hg], h⟩
theorem wpList_run {rest : List Oper} {op : Oper} {a : Act} {w w' : World} {v : Value} (hg : op.guard = none) (hr : (execOp a.eval op).run P w = .ok (.value v) w')
    (h : wpList P ops Q rest (a.put op.dst v) w') : wpList P ops Q (op :: rest) a w :=
  wpList_plain hg fun _ hK => by unfold Oper.wp; rw [hr]; exact hK _ _ h
end
section
variable {P : Program} {a : Act} {op : Oper} {w w' : World}
theorem exec_build (t : TypeId) (parts : Array (Nat × Operand)) (ho : op.op = .build t parts) (vs : Array (Nat × Value)) (hv : (parts.toList.map fun x => (x.1, a.eval x.2)) = vs.toList) {v : Value}
    (h : (Instr.build t vs).run P w = .ok v w') : (execOp a.eval op).run P w = .ok (.value v) w' := by
  have hv' : (parts.map fun x => (x.1, a.eval x.2)) = vs := by apply Array.toList_inj.1; rw [← hv]; simp
  subst hv'
  unfold execOp
  simp only [ho, Sem.run_bind, h, Result.andThen_ok, Sem.run_pure]
theorem exec_buildSlice (t n : Nat) (parts : Array (Nat × Operand)) (ho : op.op = .buildSlice t n parts) (vs : Array (Nat × Value)) (hv : (parts.toList.map fun x => (x.1, a.eval x.2)) = vs.toList) {v : Value}
    (h : (Instr.buildSlice t n vs).run P w = .ok v w') : (execOp a.eval op).run P w = .ok (.value v) w' := by
  have hv' : (parts.map fun x => (x.1, a.eval x.2)) = vs := by apply Array.toList_inj.1; rw [← hv]; simp
  subst hv'
  unfold execOp
  simp only [ho, Sem.run_bind, h, Result.andThen_ok, Sem.run_pure]
theorem exec_makeSlice (t : TypeId) (x y : Operand) (ho : op.op = .makeSlice t x y) {v : Value} (h : (Instr.makeSlice t (a.eval x) (a.eval y)).run P w = .ok v w') : (execOp a.eval op).run P w = .ok (.value v) w' := by
  unfold execOp
  simp only [ho, Sem.run_bind, h, Result.andThen_ok, Sem.run_pure]
theorem exec_load (t : TypeId) (x : Operand) (ho : op.op = .load t x) (b o : Nat) (hx : a.eval x = .pointer (some ⟨b, o, none⟩)) {v : Value} (h : (loadVar t ⟨b, o, none⟩).run P w = .ok v w') : (execOp a.eval op).run P w = .ok (.value v) w' := by
  unfold execOp
  simp only [ho, hx, Instr.loadAt, Instr.sureAddr, Sem.run_bind, h, Result.andThen_ok, Sem.run_pure]
theorem exec_alloc (t : TypeId) (ho : op.op = .alloc t) {v : Value} (h : (Instr.alloc t true (.tuple #[])).run P w = .ok v w') : (execOp a.eval op).run P w = .ok (.value v) w' := by
  unfold execOp
  simp only [ho, Sem.run_bind, h, Result.andThen_ok, Sem.run_pure]
theorem exec_copy (d s : Operand) (dT sT : TypeId) (ho : op.op = .call { callee := .builtin .copy, args := #[d, s], argTypes := #[dT, sT] }) {v : Value}
    (h : (Builtin.copy_ #[dT, sT] op.type #[a.eval d, a.eval s]).run P w = .ok v w') : (execOp a.eval op).run P w = .ok (.value v) w' := by
  unfold execOp
  simp only [ho, resolve, invoke, builtin, Sem.run_bind, Sem.run_pure, Result.andThen_ok, List.map_toArray, List.map_cons, List.map_nil, h]
theorem exec_append (d s : Operand) (dT sT : TypeId) (ho : op.op = .call { callee := .builtin .append, args := #[d, s], argTypes := #[dT, sT] }) {v : Value}
    (h : (Builtin.append_ #[dT, sT] op.type #[a.eval d, a.eval s]).run P w = .ok v w') : (execOp a.eval op).run P w = .ok (.value v) w' := by
  unfold execOp
  simp only [ho, resolve, invoke, builtin, Sem.run_bind, Sem.run_pure, Result.andThen_ok, List.map_toArray, List.map_cons, List.map_nil, h]
end

/-! ### The same, an operation written out: it fits with_reducible or not at all -/
section
variable {P : Program} {ops : Array Oper} {Q : Exit → Act → World → Prop} {rest : List Oper} {a : Act} {w w' : World} {d : Option Tmp} {ty : TypeId} {ps : String} {af : Array Edge} {v : Value}
theorem lit_append {x y : Operand} {t u : TypeId} (hr : (Builtin.append_ #[t, u] ty #[a.eval x, a.eval y]).run P w = .ok v w') (h : wpList P ops Q rest (a.put d v) w') :
    wpList P ops Q ({ dst := d, op := .call { callee := .builtin .append, args := #[x, y], argTypes := #[t, u] }, type := ty, pos := ps, after := af, guard := none } :: rest) a w :=
  wpList_run rfl (by unfold execOp; simp only [resolve, invoke, builtin, Sem.run_bind, Sem.run_pure, Result.andThen_ok, List.map_toArray, List.map_cons, List.map_nil, hr]) h
theorem lit_copy {x y : Operand} {t u : TypeId} (hr : (Builtin.copy_ #[t, u] ty #[a.eval x, a.eval y]).run P w = .ok v w') (h : wpList P ops Q rest (a.put d v) w') :
    wpList P ops Q ({ dst := d, op := .call { callee := .builtin .copy, args := #[x, y], argTypes := #[t, u] }, type := ty, pos := ps, after := af, guard := none } :: rest) a w :=
  wpList_run rfl (by unfold execOp; simp only [resolve, invoke, builtin, Sem.run_bind, Sem.run_pure, Result.andThen_ok, List.map_toArray, List.map_cons, List.map_nil, hr]) h
theorem lit_load {x : Operand} {t : TypeId} (hr : (Instr.loadAt t (a.eval x)).run P w = .ok v w') (h : wpList P ops Q rest (a.put d v) w') :
    wpList P ops Q ({ dst := d, op := .load t x, type := ty, pos := ps, after := af, guard := none } :: rest) a w :=
  wpList_run rfl (by unfold execOp; simp only [Sem.run_bind, Sem.run_pure, Result.andThen_ok, hr]) h
theorem lit_alloc {t : TypeId} (hr : (Instr.alloc t true (.tuple #[])).run P w = .ok v w') (h : wpList P ops Q rest (a.put d v) w') :
    wpList P ops Q ({ dst := d, op := .alloc t, type := ty, pos := ps, after := af, guard := none } :: rest) a w :=
  wpList_run rfl (by unfold execOp; simp only [Sem.run_bind, Sem.run_pure, Result.andThen_ok, hr]) h
theorem lit_box {x : Operand} {t : TypeId} (hr : (Instr.box t (a.eval x)).run P w = .ok v w') (h : wpList P ops Q rest (a.put d v) w') :
    wpList P ops Q ({ dst := d, op := .box t x, type := ty, pos := ps, after := af, guard := none } :: rest) a w :=
  wpList_run rfl (by unfold execOp; simp only [Sem.run_bind, Sem.run_pure, Result.andThen_ok, hr]) h
theorem lit_makeSlice {x y : Operand} {t : TypeId} (hr : (Instr.makeSlice t (a.eval x) (a.eval y)).run P w = .ok v w') (h : wpList P ops Q rest (a.put d v) w') :
    wpList P ops Q ({ dst := d, op := .makeSlice t x y, type := ty, pos := ps, after := af, guard := none } :: rest) a w :=
  wpList_run rfl (by unfold execOp; simp only [Sem.run_bind, Sem.run_pure, Result.andThen_ok, hr]) h
theorem lit_convert {x : Operand} {t u : TypeId} (hr : (convert t u (a.eval x)).run P w = .ok v w') (h : wpList P ops Q rest (a.put d v) w') :
    wpList P ops Q ({ dst := d, op := .convert t u x, type := ty, pos := ps, after := af, guard := none } :: rest) a w :=
  wpList_run rfl (by unfold execOp; simp only [Sem.run_bind, Sem.run_pure, Result.andThen_ok, hr]) h
theorem lit_slice {x : Operand} {t : TypeId} {lo hi mx : Option Operand} (hr : (Instr.sliceAt t (a.eval x) (lo.map a.eval) (hi.map a.eval) (mx.map a.eval)).run P w = .ok v w') (h : wpList P ops Q rest (a.put d v) w') :
    wpList P ops Q ({ dst := d, op := .slice t x lo hi mx, type := ty, pos := ps, after := af, guard := none } :: rest) a w :=
  wpList_run rfl (by unfold execOp; simp only [Sem.run_bind, Sem.run_pure, Result.andThen_ok, hr]) h
theorem lit_index {x y : Operand} {t : TypeId} (hr : (Instr.index t (a.eval x) (a.eval y)).run P w = .ok v w') (h : wpList P ops Q rest (a.put d v) w') :
    wpList P ops Q ({ dst := d, op := .index t x y, type := ty, pos := ps, after := af, guard := none } :: rest) a w :=
  wpList_run rfl (by unfold execOp; simp only [Sem.run_bind, Sem.run_pure, Result.andThen_ok, hr]) h
theorem lit_store {x y : Operand} {t : TypeId} (hr : (Instr.storeAt t (a.eval x) (a.eval y)).run P w = .ok () w') (h : wpList P ops Q rest (a.put d undef) w') :
    wpList P ops Q ({ dst := d, op := .store t x y, type := ty, pos := ps, after := af, guard := none } :: rest) a w :=
  wpList_plain rfl fun _ hK => by
    unfold Oper.wp execOp
    simp only [Sem.run_bind, hr, Result.andThen_ok, Sem.run_pure]
    exact hK _ _ h
theorem lit_build {parts : Array (Nat × Operand)} {t : TypeId} (vs : Array (Nat × Value)) (hv : (parts.toList.map fun x => (x.1, a.eval x.2)) = vs.toList) (hr : (Instr.build t vs).run P w = .ok v w') (h : wpList P ops Q rest (a.put d v) w') :
    wpList P ops Q ({ dst := d, op := .build t parts, type := ty, pos := ps, after := af, guard := none } :: rest) a w :=
  wpList_run rfl (exec_build t parts rfl vs hv hr) h
theorem lit_buildSlice {parts : Array (Nat × Operand)} {t n : Nat} (vs : Array (Nat × Value)) (hv : (parts.toList.map fun x => (x.1, a.eval x.2)) = vs.toList) (hr : (Instr.buildSlice t n vs).run P w = .ok v w') (h : wpList P ops Q rest (a.put d v) w') :
    wpList P ops Q ({ dst := d, op := .buildSlice t n parts, type := ty, pos := ps, after := af, guard := none } :: rest) a w :=
  wpList_run rfl (exec_buildSlice t n parts rfl vs hv hr) h
end
end Go.Proofs.YtfgggkheadfiaaaR
