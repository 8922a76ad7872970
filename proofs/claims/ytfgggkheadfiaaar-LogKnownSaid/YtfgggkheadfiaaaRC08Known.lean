/- The statement LogKnown, for every input; no conditions. -/
import Derived.Test.YtfgggkheadfiaaaRLaw08b
import Derived.Test.YtfgggkheadfiaaaRFinT
namespace Go.Proofs.YtfgggkheadfiaaaR
open Go Go.RowKit Go.ChangeShapes Go.WideShapes Go.ChangeAt

/-! ### LogKnown -/
set_option maxRecDepth 100000 in
theorem logKnown_lifted (os : Os) (started : os.Started) (H : Type) (enc : TypeId × Value → H) :
    ReturnsInHanded {} Try.checked os 11 .any (Rows.logKnownSpec.pre6 enc Try.prog Try.f11 Rows.logKnownRow.domain false) (Rows.logKnownSpec.post enc Try.prog Try.f11 false true false false) := by
  refine returnsInHanded_of_change (C := Try.checked) ownKnobs started (by kernel_rfl) Try.func11
    (ChangeSpec.witness6 (enc := enc) (C := Try.checked) false ⟨#[], #[], []⟩ 8 (by kernel_rfl) (by kernel_rfl) (by kernel_rfl) (by kernel_rfl)) ?_
  intro W base args ds gs before hval0 hW hcnd _
  have hval : ∀ (j : Nat) t v, Try.f11.params[j]? = some t → args[j]? = some v → Value.okWide Try.prog W .any base t v := hval0
  have hW' := hW
  obtain ⟨p, q, hA0, hV, rfl, hfz, hnd⟩ := hW
  have hA : DataW.TrodAll enc Try.prog W 0 (fun _ => true) true Try.f11.params.toList args.toList ds p := hA0
  rw [Try.params11] at hA hval
  obtain ⟨rfl, rfl, rfl⟩ := trodAll_none hA
  obtain ⟨rfl, rfl⟩ := trodVars_none hV
  clear hA0 hval0
  refine (logKnown_walk W (fun _ => (0, 0))).mono fun e W' he => ?_
  obtain ⟨v, o', rfl, hs, rfl⟩ := he
  exact ⟨_, rfl, law_post laidOutTry (by kernel_rfl) rfl Try.underlying4 hW' rfl rfl rfl rfl rfl hs.below⟩

/-- THE STATEMENT. -/
theorem logKnown_holds : Rows.LogKnownSaid :=
  OpenClaim.holds_of_wide 11 Try.f11 rfl rfl rfl rfl rfl rfl rfl ⟨rfl, rfl, rfl, rfl, rfl⟩ rfl rfl rfl rfl rfl (by kernel_rfl) Try.func11 (by kernel_rfl)
    (of_decide_eq_true (by kernel_rfl)) (by unfold Func.isWrapper; first | (rw [if_pos (by decide +kernel)]; kernel_rfl) | (rw [if_neg (by decide +kernel)]; exact ⟨rfl, rfl⟩))
    (fun os started H enc _ => logKnown_lifted os started H enc)
#print axioms logKnown_holds
end Go.Proofs.YtfgggkheadfiaaaR
