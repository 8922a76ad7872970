/- The statement LogNil, for every input; no conditions. -/
import Derived.Test.YtfgggkheadfiaaaRLaw08c
import Derived.Test.YtfgggkheadfiaaaRFinT
namespace Go.Proofs.YtfgggkheadfiaaaR
open Go Go.RowKit Go.ChangeShapes Go.WideShapes Go.ChangeAt

/-! ### LogNil -/
set_option maxRecDepth 100000 in
theorem logNil_lifted (os : Os) (started : os.Started) (H : Type) (enc : TypeId × Value → H) :
    ReturnsInHanded {} Try.checked os 12 .any (Rows.logNilSpec.pre6 enc Try.prog Try.f12 Rows.logNilRow.domain false) (Rows.logNilSpec.post enc Try.prog Try.f12 false true false false) := by
  refine returnsInHanded_of_change (C := Try.checked) ownKnobs started (by kernel_rfl) Try.func12
    (ChangeSpec.witness6 (enc := enc) (C := Try.checked) false ⟨#[], #[.slice none 0 0], []⟩ 8 (by kernel_rfl) (by kernel_rfl) (by kernel_rfl) (by kernel_rfl)) ?_
  intro W base args ds gs before hval0 hW hcnd _
  have hval : ∀ (j : Nat) t v, Try.f12.params[j]? = some t → args[j]? = some v → Value.okWide Try.prog W .any base t v := hval0
  have hW' := hW
  obtain ⟨p, q, hA0, hV, rfl, hfz, hnd⟩ := hW
  have hA : DataW.TrodAll enc Try.prog W 0 (fun _ => true) true Try.f12.params.toList args.toList ds p := hA0
  rw [Try.params12] at hA hval
  obtain ⟨v0, d0, rfl, rfl, h0⟩ := trodAll_one hA
  obtain ⟨a0, n0, c0, rfl⟩ := okWide_slice Try.underlying28 (hval 0 28 v0 rfl rfl)
  obtain ⟨rfl, rfl⟩ := trodVars_none hV
  clear hA0 hval0
  refine (logNil_walk W (fun _ => (0, 0)) a0 n0 c0).mono fun e W' he => ?_
  obtain ⟨v, o', rfl, hs, rfl⟩ := he
  exact ⟨_, rfl, law_post laidOutTry (by kernel_rfl) rfl Try.underlying4 hW' rfl rfl rfl rfl rfl hs.below⟩

/-- THE STATEMENT. -/
theorem logNil_holds : Rows.LogNilSaid :=
  OpenClaim.holds_of_wide 12 Try.f12 rfl rfl rfl rfl rfl rfl rfl ⟨rfl, rfl, rfl, rfl, rfl⟩ rfl rfl rfl rfl rfl (by kernel_rfl) Try.func12 (by kernel_rfl)
    (of_decide_eq_true (by kernel_rfl)) (by unfold Func.isWrapper; first | (rw [if_pos (by decide +kernel)]; kernel_rfl) | (rw [if_neg (by decide +kernel)]; exact ⟨rfl, rfl⟩))
    (fun os started H enc _ => logNil_lifted os started H enc)
#print axioms logNil_holds
end Go.Proofs.YtfgggkheadfiaaaR
